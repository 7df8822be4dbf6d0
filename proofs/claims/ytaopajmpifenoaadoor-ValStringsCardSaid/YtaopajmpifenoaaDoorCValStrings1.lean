/- Part 2 of the proof of ValStrings: words, contracts of functions of the program (what a call answers), and what the answers say. -/
import Derived.Lib.Bytes
import Derived.Laws.BitsLemmas
import Derived.Laws.Bits64
import Derived.Lib.ItoaNum
import Derived.Lib.LazyBuf
import Derived.Lib.ItoaLen
import Derived.ChangeArms
import Derived.DataElems
import Derived.DataReads
import Derived.SizedLaws
import Derived.ChangeSlices
import Derived.RowKit
import Derived.WideShapes
import Derived.ChangeShapes
import Derived.KernelRfl
import Derived.Test.YtaopajmpifenoaaDoorRows
import Derived.LaidMore
import Derived.Stop.LaidErr
import Derived.Lib.LaidTab
import Derived.MakeChecks
import Derived.LaidLaws
import Derived.Test.YtaopajmpifenoaaDoorVWords
import Derived.Test.YtaopajmpifenoaaDoorVLast
import Derived.Test.YtaopajmpifenoaaDoorVApart
import Derived.Test.YtaopajmpifenoaaDoorVArr
import Derived.Test.YtaopajmpifenoaaDoorVFoot
import Derived.Test.YtaopajmpifenoaaDoorVKept
import Derived.Test.YtaopajmpifenoaaDoorVShare
import Derived.Test.YtaopajmpifenoaaDoorVZeros
import Derived.Test.YtaopajmpifenoaaDoorVN
import Derived.Test.YtaopajmpifenoaaDoorVFootNe
import Derived.Test.YtaopajmpifenoaaDoorVAt
import Derived.Test.YtaopajmpifenoaaDoorVEqStruct
import Derived.Test.YtaopajmpifenoaaDoorVTab
import Derived.Test.YtaopajmpifenoaaDoorVFour
import Derived.Test.YtaopajmpifenoaaDoorVGuard
import Derived.Test.YtaopajmpifenoaaDoorVInv
import Derived.Test.YtaopajmpifenoaaDoorVInvWords
import Derived.Test.YtaopajmpifenoaaDoorVQPut
import Derived.Test.YtaopajmpifenoaaDoorVNEv
import Derived.Test.YtaopajmpifenoaaDoorVMore
import Derived.Test.YtaopajmpifenoaaDoorVRepsOne
import Derived.Test.YtaopajmpifenoaaDoorVSized
import Derived.Test.YtaopajmpifenoaaDoorCValStrings0
section
namespace Go.Proofs.YtaopajmpifenoaaDoor.P
open Go.RowKit Go.Proofs.YtaopajmpifenoaaDoorW.PrintWords Go.Proofs.YtaopajmpifenoaaDoorW.PrintLast Go.Proofs.YtaopajmpifenoaaDoorW.PrintMore
attribute [local go_sem] max2_int min2_int max_two min_two max_three min_three max_four min_four
set_option linter.unusedVariables false
set_option linter.unusedSimpArgs false
attribute [local go_sem high] eqA44
mutual
def constablelaw01_ValStrings.l0 : Nat → ByteArray → Int → ByteArray → Int → Option (Bool)
  | 0, _, _, _, _ => none
  | k + 1, x0, x1, x5, x6 => if x6 < (x0.size : Int) then (if 0 ≤ x6 then (if (bt x0 x6) < 32 then (constablelaw01_ValStrings.j1 k x0 x1 x5 x6 true) else (constablelaw01_ValStrings.j1 k x0 x1 x5 x6 (decide ((bt x0 x6) > 126)))) else (none)) else (if 1 + x5.size ≤ 9223372036854775807 then (if ((⟨#[34]⟩ : ByteArray) ++ x5).size + 1 ≤ 9223372036854775807 then ((val_Parse.f k (((⟨#[34]⟩ : ByteArray) ++ x5) ++ (⟨#[34]⟩ : ByteArray))).bind fun bt447 => ((val_Text.f k 3 0 x0).bind fun bt452 => (if x5.size + 1 ≤ 9223372036854775807 then (if ((⟨#[34]⟩ : ByteArray) ++ x5).size + 2 ≤ 9223372036854775807 then (if ((⟨#[34]⟩ : ByteArray) ++ x5).size + 3 ≤ 9223372036854775807 then ((some (([(⟨#[34]⟩ : ByteArray) ++ x5, x5 ++ (⟨#[34]⟩ : ByteArray), ((⟨#[34]⟩ : ByteArray) ++ x5) ++ (⟨#[92, 34]⟩ : ByteArray), ((⟨#[34]⟩ : ByteArray) ++ x5) ++ (⟨#[92, 97, 34]⟩ : ByteArray), ((⟨#[34]⟩ : ByteArray) ++ x5) ++ (⟨#[1, 34]⟩ : ByteArray), ((⟨#[34]⟩ : ByteArray) ++ x5) ++ (⟨#[34, 34]⟩ : ByteArray), ((⟨#[34]⟩ : ByteArray) ++ x5) ++ (⟨#[34, 32]⟩ : ByteArray)] : List ByteArray) : List ByteArray)).bind fun y454 => (if 0 ≤ (wrap64 (Int.tmod (IntKind.u64.wrap (x1)) 7)) then (if (wrap64 (Int.tmod (IntKind.u64.wrap (x1)) 7)) < (y454.length : Int) then ((val_Parse.f k (rdOf ByteArray.empty y454 (wrap64 (Int.tmod (IntKind.u64.wrap (x1)) 7)))).bind fun bt458 => (if (wrap64 (Int.tmod (IntKind.u64.wrap (x1)) 7)) = 1 then (if (x5.size : Int) > 0 then (if 0 < (x5.size : Int) then (constablelaw01_ValStrings.j2 k x0 x5 bt447.2.2.2 bt452.1 bt452.2 bt458.2.2.2 ((bt x5 0) == 34) bt447.1 bt447.2.1 bt447.2.2.1 bt458.1 bt458.2.1 bt458.2.2.1) else (none)) else (constablelaw01_ValStrings.j2 k x0 x5 bt447.2.2.2 bt452.1 bt452.2 bt458.2.2.2 false bt447.1 bt447.2.1 bt447.2.2.1 bt458.1 bt458.2.1 bt458.2.2.1)) else (constablelaw01_ValStrings.j2 k x0 x5 bt447.2.2.2 bt452.1 bt452.2 bt458.2.2.2 false bt447.1 bt447.2.1 bt447.2.2.1 bt458.1 bt458.2.1 bt458.2.2.1))) else (none)) else (none))) else (none)) else (none)) else (none)))) else (none)) else (none))
def constablelaw01_ValStrings.j1 : Nat → ByteArray → Int → ByteArray → Int → Bool → Option (Bool)
  | 0, _, _, _, _, _ => none
  | k + 1, x0, x1, x5, x6, x33 => if x33 = true then (some true) else (if 0 ≤ x6 then (if x6 < (x0.size : Int) then (if (bt x0 x6) = 34 then (if x5.size + 1 ≤ 9223372036854775807 then (if x6 ≤ (wrap64 (x6 + 1)) then (if (wrap64 (x6 + 1)) ≤ (x0.size : Int) then (if (x5 ++ (⟨#[92]⟩ : ByteArray)).size + (x0.extract (x6 : Int).toNat ((wrap64 (x6 + 1)) : Int).toNat).size ≤ 9223372036854775807 then (constablelaw01_ValStrings.l0 k x0 x1 ((x5 ++ (⟨#[92]⟩ : ByteArray)) ++ (x0.extract (x6 : Int).toNat ((wrap64 (x6 + 1)) : Int).toNat)) (wrap64 (x6 + 1))) else (none)) else (none)) else (none)) else (none)) else (if (bt x0 x6) = 92 then (if x5.size + 1 ≤ 9223372036854775807 then (if x6 ≤ (wrap64 (x6 + 1)) then (if (wrap64 (x6 + 1)) ≤ (x0.size : Int) then (if (x5 ++ (⟨#[92]⟩ : ByteArray)).size + (x0.extract (x6 : Int).toNat ((wrap64 (x6 + 1)) : Int).toNat).size ≤ 9223372036854775807 then (constablelaw01_ValStrings.l0 k x0 x1 ((x5 ++ (⟨#[92]⟩ : ByteArray)) ++ (x0.extract (x6 : Int).toNat ((wrap64 (x6 + 1)) : Int).toNat)) (wrap64 (x6 + 1))) else (none)) else (none)) else (none)) else (none)) else (if x6 ≤ (wrap64 (x6 + 1)) then (if (wrap64 (x6 + 1)) ≤ (x0.size : Int) then (if x5.size + (x0.extract (x6 : Int).toNat ((wrap64 (x6 + 1)) : Int).toNat).size ≤ 9223372036854775807 then (constablelaw01_ValStrings.l0 k x0 x1 (x5 ++ (x0.extract (x6 : Int).toNat ((wrap64 (x6 + 1)) : Int).toNat)) (wrap64 (x6 + 1))) else (none)) else (none)) else (none)))) else (none)) else (none))
def constablelaw01_ValStrings.j2 : Nat → ByteArray → ByteArray → Int → ByteArray → Int → Int → Bool → Int → Int → ByteArray → Int → Int → ByteArray → Option (Bool)
  | 0, _, _, _, _, _, _, _, _, _, _, _, _, _ => none
  | k + 1, x0, x5, x8, x9, x10, x14, x109, x452000, x452001, x452002, x463000, x463001, x463002 => if x109 = true then ((constablelaw01_wakes.f k).bind fun t463 => (some t463)) else (if x8 = 0 then (if x452002.toList = x0.toList then (if x452000 = 3 then (if x10 = 0 then (if 1 + x5.size ≤ 9223372036854775807 then (if ((⟨#[34]⟩ : ByteArray) ++ x5).size + 1 ≤ 9223372036854775807 then (if x9.toList = (((⟨#[34]⟩ : ByteArray) ++ x5) ++ (⟨#[34]⟩ : ByteArray)).toList then (if x14 = 7 then (if (x463000 == 0 && (x463001 == 0 && (x463002.toList == ([] : List UInt8)))) = true then ((constablelaw01_wakes.f k).bind fun t464 => (some t464)) else (some false)) else (some false)) else (some false)) else (none)) else (none)) else (some false)) else (some false)) else (some false)) else (some false))
end
def constablelaw01_ValStrings.f (k : Nat) (a0 : ByteArray) (a1 : Int) : Option (Bool) := if (a0.size : Int) > 60 then (some true) else (constablelaw01_ValStrings.l0 k a0 a1 (⟨#[]⟩ : ByteArray) 0)
theorem constablelaw01_ValStrings.mono_l : ∀ k, (∀ y0 y1 y2 y3, LeO (constablelaw01_ValStrings.l0 k y0 y1 y2 y3) (constablelaw01_ValStrings.l0 (k + 1) y0 y1 y2 y3)) ∧ (∀ y0 y1 y2 y3 y4, LeO (constablelaw01_ValStrings.j1 k y0 y1 y2 y3 y4) (constablelaw01_ValStrings.j1 (k + 1) y0 y1 y2 y3 y4)) ∧ (∀ y0 y1 y2 y3 y4 y5 y6 y7 y8 y9 y10 y11 y12, LeO (constablelaw01_ValStrings.j2 k y0 y1 y2 y3 y4 y5 y6 y7 y8 y9 y10 y11 y12) (constablelaw01_ValStrings.j2 (k + 1) y0 y1 y2 y3 y4 y5 y6 y7 y8 y9 y10 y11 y12))
  | 0 => ⟨fun _ _ _ _ r h => by simp [constablelaw01_ValStrings.l0] at h, fun _ _ _ _ _ r h => by simp [constablelaw01_ValStrings.j1] at h, fun _ _ _ _ _ _ _ _ _ _ _ _ _ r h => by simp [constablelaw01_ValStrings.j2] at h⟩
  | k + 1 => by
    obtain ⟨ih0, ih1, ih2⟩ := constablelaw01_ValStrings.mono_l k
    refine ⟨?_, ?_, ?_⟩
    · intro y0 y1 y2 y3
      unfold constablelaw01_ValStrings.l0
      repeat' first
      | (with_reducible exact ih0 _ _ _ _)
      | (with_reducible exact ih1 _ _ _ _ _)
      | (with_reducible exact ih2 _ _ _ _ _ _ _ _ _ _ _ _ _)
      | (with_reducible exact constablelaw01_wakes.mono _)
      | (with_reducible exact val_Parse.mono _ _)
      | (with_reducible exact val_Text.mono _ _ _ _)
      | (with_reducible exact LeO.refl _)
      | (with_reducible exact LeO.none _)
      | (with_reducible refine LeO.ite ?_ ?_)
      | (with_reducible refine LeO.bind ?_ (fun _ => ?_))
      | exact ih0 _ _ _ _
      | exact ih1 _ _ _ _ _
      | exact ih2 _ _ _ _ _ _ _ _ _ _ _ _ _
      | exact constablelaw01_wakes.mono _
      | exact val_Parse.mono _ _
      | exact val_Text.mono _ _ _ _
      | exact LeO.none _
      | refine LeO.ite ?_ ?_
      | refine LeO.bind ?_ (fun _ => ?_)
    · intro y0 y1 y2 y3 y4
      unfold constablelaw01_ValStrings.j1
      repeat' first
      | (with_reducible exact ih0 _ _ _ _)
      | (with_reducible exact ih1 _ _ _ _ _)
      | (with_reducible exact ih2 _ _ _ _ _ _ _ _ _ _ _ _ _)
      | (with_reducible exact constablelaw01_wakes.mono _)
      | (with_reducible exact val_Parse.mono _ _)
      | (with_reducible exact val_Text.mono _ _ _ _)
      | (with_reducible exact LeO.refl _)
      | (with_reducible exact LeO.none _)
      | (with_reducible refine LeO.ite ?_ ?_)
      | (with_reducible refine LeO.bind ?_ (fun _ => ?_))
      | exact ih0 _ _ _ _
      | exact ih1 _ _ _ _ _
      | exact ih2 _ _ _ _ _ _ _ _ _ _ _ _ _
      | exact constablelaw01_wakes.mono _
      | exact val_Parse.mono _ _
      | exact val_Text.mono _ _ _ _
      | exact LeO.none _
      | refine LeO.ite ?_ ?_
      | refine LeO.bind ?_ (fun _ => ?_)
    · intro y0 y1 y2 y3 y4 y5 y6 y7 y8 y9 y10 y11 y12
      unfold constablelaw01_ValStrings.j2
      repeat' first
      | (with_reducible exact ih0 _ _ _ _)
      | (with_reducible exact ih1 _ _ _ _ _)
      | (with_reducible exact ih2 _ _ _ _ _ _ _ _ _ _ _ _ _)
      | (with_reducible exact constablelaw01_wakes.mono _)
      | (with_reducible exact val_Parse.mono _ _)
      | (with_reducible exact val_Text.mono _ _ _ _)
      | (with_reducible exact LeO.refl _)
      | (with_reducible exact LeO.none _)
      | (with_reducible refine LeO.ite ?_ ?_)
      | (with_reducible refine LeO.bind ?_ (fun _ => ?_))
      | exact ih0 _ _ _ _
      | exact ih1 _ _ _ _ _
      | exact ih2 _ _ _ _ _ _ _ _ _ _ _ _ _
      | exact constablelaw01_wakes.mono _
      | exact val_Parse.mono _ _
      | exact val_Text.mono _ _ _ _
      | exact LeO.none _
      | refine LeO.ite ?_ ?_
      | refine LeO.bind ?_ (fun _ => ?_)
theorem constablelaw01_ValStrings.mono : ∀ a0 a1 k, LeO (constablelaw01_ValStrings.f k a0 a1) (constablelaw01_ValStrings.f (k + 1) a0 a1) := by
  intro a0 a1 k
  obtain ⟨ih0, ih1, ih2⟩ := constablelaw01_ValStrings.mono_l k
  unfold constablelaw01_ValStrings.f
  repeat' first
      | (with_reducible exact ih0 _ _ _ _)
      | (with_reducible exact ih1 _ _ _ _ _)
      | (with_reducible exact ih2 _ _ _ _ _ _ _ _ _ _ _ _ _)
      | (with_reducible exact constablelaw01_wakes.mono _)
      | (with_reducible exact val_Parse.mono _ _)
      | (with_reducible exact val_Text.mono _ _ _ _)
      | (with_reducible exact LeO.refl _)
      | (with_reducible exact LeO.none _)
      | (with_reducible refine LeO.ite ?_ ?_)
      | (with_reducible refine LeO.bind ?_ (fun _ => ?_))
      | exact ih0 _ _ _ _
      | exact ih1 _ _ _ _ _
      | exact ih2 _ _ _ _ _ _ _ _ _ _ _ _ _
      | exact constablelaw01_wakes.mono _
      | exact val_Parse.mono _ _
      | exact val_Text.mono _ _ _ _
      | exact LeO.none _
      | refine LeO.ite ?_ ?_
      | refine LeO.bind ?_ (fun _ => ?_)
set_option maxHeartbeats 8000000 in
set_option maxRecDepth 100000 in
theorem constablelaw01_ValStrings.calls (k : Nat) (a0 : ByteArray) (a1 : Int) (r : Bool) (w : World) (h : constablelaw01_ValStrings.f k a0 a1 = some r) (hr_ : r = true) (hl_ : LaidE w) :
    Calls Tryd.prog 10 #[.string a0, .int .i64 a1] w fun e w' => e = .returned (.bool r) ∧ Below w.heap.size w w' := by
  have hu44 := Tryd.underlying44
  have HB := Aside0.mk (Below.refl w.heap.size w)
  have H : (if (a0.size : Int) > 60 then (some true) else (constablelaw01_ValStrings.l0 k a0 a1 (⟨#[]⟩ : ByteArray) 0)) = some r := h
  clear h
  have HL_ := Aside0.mk hl_
  clear hl_
  have HR_ := Aside0.mk hr_
  clear hr_
  by_cases c3 : (a0.size : Int) > 60
  · rw [if_pos c3] at H
    have c3b0 : decide (60 < (a0.size : Int)) = true := decide_eq_true c3
    have c3b1 : decide (60 < a0.size) = true := decide_eq_true (by omega)
    clear c3
    obtain rfl := Option.some.inj H
    go_enter Tryd.func10, Tryd.ntmps10
    go_wp2
    go_ret
    exact ⟨by first | rfl | (simp [errW_none, errW_some] <;> rfl) | (simp [*, errW_none, errW_some] <;> rfl), by repeat (first | (with_reducible first | exact HB.out | apply below_alloc | apply pw_below_drewN | apply below_drew1) | exact HB.out)⟩
  · rw [if_neg c3] at H
    have c3b0 : decide (60 < (a0.size : Int)) = false := decide_eq_false c3
    have c3b1 : decide (60 < a0.size) = false := decide_eq_false (by omega)
    clear c3
    have H' := Aside0.mk H
    clear H
    go_enter Tryd.func10, Tryd.ntmps10
    go_wp2
    go_loopg [5, 6] k (fun kq v5 v6 w' => ∃ (x5_1 : ByteArray) (x6_1 : Int), v5 = .string x5_1 ∧ v6 = .int .i64 x6_1 ∧ Aside0 (constablelaw01_ValStrings.l0 kq a0 a1 x5_1 x6_1 = some r) ∧ Aside0 (kq ≤ k) ∧ Aside0 (Below w.heap.size w w'))
    case atStart => exact ⟨((⟨#[]⟩ : ByteArray)), (0), ra_, ra_, H', ⟨Nat.le_refl _⟩, ⟨by repeat (first | (with_reducible first | exact HB.out | apply below_alloc | apply pw_below_drewN | apply below_drew1) | exact HB.out)⟩⟩
    case round =>
      clear H'
      try clear c1
      try clear p2
      try clear c3
      try clear c3b0
      try clear c3b1
      obtain ⟨x5_1, x6_1, rfl, rfl, HA, HK1, HB⟩ := hrel
      cases gk with
      | zero => exact absurd HA.out (by simp [constablelaw01_ValStrings.l0])
      | succ k1 =>
        have H := HA.out
        clear HA
        simp only [constablelaw01_ValStrings.l0] at H
        by_cases c4 : x6_1 < (a0.size : Int)
        · rw [if_pos c4] at H
          have c4b0 : decide (x6_1 < (a0.size : Int)) = true := decide_eq_true c4
          clear c4
          have HC5 := Aside0.mk H
          clear H
          go_upto_region 7 with (fail)
          go_cut [33] (fun v33 wc => ∃ (kq : Nat) (x33_4 : Bool), v33 = .bool x33_4 ∧ Aside0 (constablelaw01_ValStrings.j1 kq a0 a1 x5_1 x6_1 x33_4 = some r) ∧ Aside0 (kq ≤ k1) ∧ Aside0 (Below w.heap.size w wc))
          case first =>
            have H := HC5.out
            clear HC5
            by_cases c6 : 0 ≤ x6_1
            · rw [if_pos c6] at H
              have c6b0 : decide (0 ≤ x6_1) = true := decide_eq_true c6
              clear c6
              (first | rw [c6b0] | (simp only [i64_w, i32_w]; rw [c6b0]) | skip)
              by_cases c8 : (bt a0 x6_1) < 32
              · rw [if_pos c8] at H
                have c8b0 : decide ((bt a0 x6_1) < 32) = true := decide_eq_true c8
                clear c8
                have H' := Aside0.mk H
                clear H
                have p7 : 0 ≤ (x6_1 : Int) := dt_
                have q7 : x6_1 < (a0.size : Int) := dt_
                have hx7 := bt_at a0 x6_1
                replace p7 := eq_true p7
                replace q7 := eq_true q7
                go_wp2
                go_meet
                case rel => exact ⟨_, (true), ra_, H', ⟨by have := HK1.out; first | omega | exact Nat.le_refl _⟩, ⟨by repeat (first | (with_reducible first | exact HB.out | apply below_alloc | apply pw_below_drewN | apply below_drew1) | exact HB.out)⟩⟩
              · rw [if_neg c8] at H
                have c8b0 : decide ((bt a0 x6_1) < 32) = false := decide_eq_false c8
                clear c8
                have H' := Aside0.mk H
                clear H
                have p7 : 0 ≤ (x6_1 : Int) := dt_
                have q7 : x6_1 < (a0.size : Int) := dt_
                have hx7 := bt_at a0 x6_1
                replace p7 := eq_true p7
                replace q7 := eq_true q7
                have p9 : 0 ≤ (x6_1 : Int) := dt_
                have q9 : x6_1 < (a0.size : Int) := dt_
                have hx9 := bt_at a0 x6_1
                replace p9 := eq_true p9
                replace q9 := eq_true q9
                go_wp2
                go_meet
                case rel => exact ⟨_, (decide ((bt a0 x6_1) > 126)), ra_, H', ⟨by have := HK1.out; first | omega | exact Nat.le_refl _⟩, ⟨by repeat (first | (with_reducible first | exact HB.out | apply below_alloc | apply pw_below_drewN | apply below_drew1) | exact HB.out)⟩⟩
            · rw [if_neg c6] at H
              exact absurd H (by simp)
          case rest =>
            clear HC5
            try clear c1
            try clear p2
            try clear c3
            try clear c3b0
            try clear c3b1
            try clear c4
            try clear c4b0
            try clear c6
            try clear c6b0
            try clear p7
            try clear q7
            try clear hx7
            try clear c8
            try clear c8b0
            try clear p9
            try clear q9
            try clear hx9
            try clear p2
            try clear p7
            try clear p9
            try clear q7
            try clear q9
            obtain ⟨kq, x33_4, rfl, HA, HJ4, HB⟩ := hcut
            cases kq with
            | zero => exact absurd HA.out (by simp [constablelaw01_ValStrings.j1])
            | succ kj4 =>
              have H := HA.out
              clear HA
              simp only [constablelaw01_ValStrings.j1] at H
              by_cases c10 : x33_4 = true
              · subst c10
                have H1 : (some true) = some r := by rw [if_pos rfl] at H; exact H
                clear H
                have H := H1
                clear H1
                obtain rfl := Option.some.inj H
                go_wp2
                go_ret
                exact ⟨by first | rfl | (simp [errW_none, errW_some] <;> rfl) | (simp [*, errW_none, errW_some] <;> rfl), by repeat (first | (with_reducible first | exact HB.out | apply below_alloc | apply pw_below_drewN | apply below_drew1) | exact HB.out)⟩
              · replace c10 := Bool.eq_false_iff.mpr c10
                subst c10
                have H1 : (if 0 ≤ x6_1 then (if x6_1 < (a0.size : Int) then (if (bt a0 x6_1) = 34 then (if x5_1.size + 1 ≤ 9223372036854775807 then (if x6_1 ≤ (wrap64 (x6_1 + 1)) then (if (wrap64 (x6_1 + 1)) ≤ (a0.size : Int) then (if (x5_1 ++ (⟨#[92]⟩ : ByteArray)).size + (a0.extract (x6_1 : Int).toNat ((wrap64 (x6_1 + 1)) : Int).toNat).size ≤ 9223372036854775807 then (constablelaw01_ValStrings.l0 kj4 a0 a1 ((x5_1 ++ (⟨#[92]⟩ : ByteArray)) ++ (a0.extract (x6_1 : Int).toNat ((wrap64 (x6_1 + 1)) : Int).toNat)) (wrap64 (x6_1 + 1))) else (none)) else (none)) else (none)) else (none)) else (if (bt a0 x6_1) = 92 then (if x5_1.size + 1 ≤ 9223372036854775807 then (if x6_1 ≤ (wrap64 (x6_1 + 1)) then (if (wrap64 (x6_1 + 1)) ≤ (a0.size : Int) then (if (x5_1 ++ (⟨#[92]⟩ : ByteArray)).size + (a0.extract (x6_1 : Int).toNat ((wrap64 (x6_1 + 1)) : Int).toNat).size ≤ 9223372036854775807 then (constablelaw01_ValStrings.l0 kj4 a0 a1 ((x5_1 ++ (⟨#[92]⟩ : ByteArray)) ++ (a0.extract (x6_1 : Int).toNat ((wrap64 (x6_1 + 1)) : Int).toNat)) (wrap64 (x6_1 + 1))) else (none)) else (none)) else (none)) else (none)) else (if x6_1 ≤ (wrap64 (x6_1 + 1)) then (if (wrap64 (x6_1 + 1)) ≤ (a0.size : Int) then (if x5_1.size + (a0.extract (x6_1 : Int).toNat ((wrap64 (x6_1 + 1)) : Int).toNat).size ≤ 9223372036854775807 then (constablelaw01_ValStrings.l0 kj4 a0 a1 (x5_1 ++ (a0.extract (x6_1 : Int).toNat ((wrap64 (x6_1 + 1)) : Int).toNat)) (wrap64 (x6_1 + 1))) else (none)) else (none)) else (none)))) else (none)) else (none)) = some r := by rw [if_neg (show ¬ (false = true) by decide)] at H; exact H
                clear H
                have H := H1
                clear H1
                by_cases c11 : 0 ≤ x6_1
                · rw [if_pos c11] at H
                  have c11b0 : decide (0 ≤ x6_1) = true := decide_eq_true c11
                  clear c11
                  by_cases c12 : x6_1 < (a0.size : Int)
                  · rw [if_pos c12] at H
                    have c12b0 : decide (x6_1 < (a0.size : Int)) = true := decide_eq_true c12
                    clear c12
                    by_cases c14 : (bt a0 x6_1) = 34
                    · rw [if_pos c14] at H
                      obtain ⟨c14b0, c14b1⟩ := eqB_ c14
                      clear c14
                      by_cases c15 : x5_1.size + 1 ≤ 9223372036854775807
                      · rw [if_pos c15] at H
                        have c15b0 := eq_true c15
                        have c15b1 : decide (x5_1.size + 1 ≤ 9223372036854775807) = true := decide_eq_true c15
                        try have c15b2 : (9223372036854775807 < x5_1.size + 1) = False := eq_false (Nat.not_lt.2 c15)
                        have c16b0 := eq_true (of_decide_eq_true (by first | (with_reducible assumption) | assumption) : 0 ≤ x6_1)
                        by_cases c17 : x6_1 ≤ (wrap64 (x6_1 + 1))
                        · rw [if_pos c17] at H
                          have c17b0 := eq_true c17
                          have c17b1 : decide (x6_1 ≤ (wrap64 (x6_1 + 1))) = true := decide_eq_true c17
                          by_cases c18 : (wrap64 (x6_1 + 1)) ≤ (a0.size : Int)
                          · rw [if_pos c18] at H
                            have c18b0 := eq_true c18
                            have c18b1 : decide ((wrap64 (x6_1 + 1)) ≤ (a0.size : Int)) = true := decide_eq_true c18
                            by_cases c19 : (x5_1 ++ (⟨#[92]⟩ : ByteArray)).size + (a0.extract (x6_1 : Int).toNat ((wrap64 (x6_1 + 1)) : Int).toNat).size ≤ 9223372036854775807
                            · rw [if_pos c19] at H
                              have c19b0 := eq_true c19
                              try (have c19n : x5_1.size + 1 + a0.extract (x6_1 : Int).toNat ((wrap64 (x6_1 + 1)) : Int).toNat.size ≤ 9223372036854775807 := (by have h_ := c19; simp only [ByteArray.size_append] at h_; exact h_); have c19m := eq_false (Nat.not_lt.2 c19n))
                              have c19b1 : decide ((x5_1 ++ (⟨#[92]⟩ : ByteArray)).size + (a0.extract (x6_1 : Int).toNat ((wrap64 (x6_1 + 1)) : Int).toNat).size ≤ 9223372036854775807) = true := decide_eq_true c19
                              try have c19b2 : (9223372036854775807 < (x5_1 ++ (⟨#[92]⟩ : ByteArray)).size + (a0.extract (x6_1 : Int).toNat ((wrap64 (x6_1 + 1)) : Int).toNat).size) = False := eq_false (Nat.not_lt.2 c19)
                              have H' := Aside0.mk H
                              clear H
                              have p13 : 0 ≤ (x6_1 : Int) := dt_
                              have q13 : x6_1 < (a0.size : Int) := dt_
                              have hx13 := bt_at a0 x6_1
                              replace p13 := eq_true p13
                              replace q13 := eq_true q13
                              go_wp2
                              go_roundg kj4
                              case measure => have := HK1.out; have := HJ4.out; omega
                              case rel => exact ⟨((x5_1 ++ (⟨#[92]⟩ : ByteArray)) ++ (a0.extract (x6_1 : Int).toNat ((wrap64 (x6_1 + 1)) : Int).toNat)), (wrap64 (x6_1 + 1)), ra_, ra_, H', ⟨by have := HK1.out; have := HJ4.out; omega⟩, ⟨by repeat (first | (with_reducible first | exact HB.out | apply below_alloc | apply pw_below_drewN | apply below_drew1) | exact HB.out)⟩⟩
                            · rw [if_neg c19] at H
                              exact absurd H (by simp)
                          · rw [if_neg c18] at H
                            exact absurd H (by simp)
                        · rw [if_neg c17] at H
                          exact absurd H (by simp)
                      · rw [if_neg c15] at H
                        exact absurd H (by simp)
                    · rw [if_neg c14] at H
                      obtain ⟨c14b0, c14b1⟩ := neB_ c14
                      by_cases c21 : (bt a0 x6_1) = 92
                      · rw [if_pos c21] at H
                        obtain ⟨c21b0, c21b1⟩ := eqB_ c21
                        clear c21
                        by_cases c22 : x5_1.size + 1 ≤ 9223372036854775807
                        · rw [if_pos c22] at H
                          have c22b0 := eq_true c22
                          have c22b1 : decide (x5_1.size + 1 ≤ 9223372036854775807) = true := decide_eq_true c22
                          try have c22b2 : (9223372036854775807 < x5_1.size + 1) = False := eq_false (Nat.not_lt.2 c22)
                          have c23b0 := eq_true (of_decide_eq_true (by first | (with_reducible assumption) | assumption) : 0 ≤ x6_1)
                          by_cases c24 : x6_1 ≤ (wrap64 (x6_1 + 1))
                          · rw [if_pos c24] at H
                            have c24b0 := eq_true c24
                            have c24b1 : decide (x6_1 ≤ (wrap64 (x6_1 + 1))) = true := decide_eq_true c24
                            by_cases c25 : (wrap64 (x6_1 + 1)) ≤ (a0.size : Int)
                            · rw [if_pos c25] at H
                              have c25b0 := eq_true c25
                              have c25b1 : decide ((wrap64 (x6_1 + 1)) ≤ (a0.size : Int)) = true := decide_eq_true c25
                              by_cases c26 : (x5_1 ++ (⟨#[92]⟩ : ByteArray)).size + (a0.extract (x6_1 : Int).toNat ((wrap64 (x6_1 + 1)) : Int).toNat).size ≤ 9223372036854775807
                              · rw [if_pos c26] at H
                                have c26b0 := eq_true c26
                                try (have c26n : x5_1.size + 1 + a0.extract (x6_1 : Int).toNat ((wrap64 (x6_1 + 1)) : Int).toNat.size ≤ 9223372036854775807 := (by have h_ := c26; simp only [ByteArray.size_append] at h_; exact h_); have c26m := eq_false (Nat.not_lt.2 c26n))
                                have c26b1 : decide ((x5_1 ++ (⟨#[92]⟩ : ByteArray)).size + (a0.extract (x6_1 : Int).toNat ((wrap64 (x6_1 + 1)) : Int).toNat).size ≤ 9223372036854775807) = true := decide_eq_true c26
                                try have c26b2 : (9223372036854775807 < (x5_1 ++ (⟨#[92]⟩ : ByteArray)).size + (a0.extract (x6_1 : Int).toNat ((wrap64 (x6_1 + 1)) : Int).toNat).size) = False := eq_false (Nat.not_lt.2 c26)
                                have H' := Aside0.mk H
                                clear H
                                have p13 : 0 ≤ (x6_1 : Int) := dt_
                                have q13 : x6_1 < (a0.size : Int) := dt_
                                have hx13 := bt_at a0 x6_1
                                replace p13 := eq_true p13
                                replace q13 := eq_true q13
                                have p20 : 0 ≤ (x6_1 : Int) := dt_
                                have q20 : x6_1 < (a0.size : Int) := dt_
                                have hx20 := bt_at a0 x6_1
                                replace p20 := eq_true p20
                                replace q20 := eq_true q20
                                go_wp2
                                go_roundg kj4
                                case measure => have := HK1.out; have := HJ4.out; omega
                                case rel => exact ⟨((x5_1 ++ (⟨#[92]⟩ : ByteArray)) ++ (a0.extract (x6_1 : Int).toNat ((wrap64 (x6_1 + 1)) : Int).toNat)), (wrap64 (x6_1 + 1)), ra_, ra_, H', ⟨by have := HK1.out; have := HJ4.out; omega⟩, ⟨by repeat (first | (with_reducible first | exact HB.out | apply below_alloc | apply pw_below_drewN | apply below_drew1) | exact HB.out)⟩⟩
                              · rw [if_neg c26] at H
                                exact absurd H (by simp)
                            · rw [if_neg c25] at H
                              exact absurd H (by simp)
                          · rw [if_neg c24] at H
                            exact absurd H (by simp)
                        · rw [if_neg c22] at H
                          exact absurd H (by simp)
                      · rw [if_neg c21] at H
                        obtain ⟨c21b0, c21b1⟩ := neB_ c21
                        have c27b0 := eq_true (of_decide_eq_true (by first | (with_reducible assumption) | assumption) : 0 ≤ x6_1)
                        by_cases c28 : x6_1 ≤ (wrap64 (x6_1 + 1))
                        · rw [if_pos c28] at H
                          have c28b0 := eq_true c28
                          have c28b1 : decide (x6_1 ≤ (wrap64 (x6_1 + 1))) = true := decide_eq_true c28
                          by_cases c29 : (wrap64 (x6_1 + 1)) ≤ (a0.size : Int)
                          · rw [if_pos c29] at H
                            have c29b0 := eq_true c29
                            have c29b1 : decide ((wrap64 (x6_1 + 1)) ≤ (a0.size : Int)) = true := decide_eq_true c29
                            by_cases c30 : x5_1.size + (a0.extract (x6_1 : Int).toNat ((wrap64 (x6_1 + 1)) : Int).toNat).size ≤ 9223372036854775807
                            · rw [if_pos c30] at H
                              have c30b0 := eq_true c30
                              have c30b1 : decide (x5_1.size + (a0.extract (x6_1 : Int).toNat ((wrap64 (x6_1 + 1)) : Int).toNat).size ≤ 9223372036854775807) = true := decide_eq_true c30
                              try have c30b2 : (9223372036854775807 < x5_1.size + (a0.extract (x6_1 : Int).toNat ((wrap64 (x6_1 + 1)) : Int).toNat).size) = False := eq_false (Nat.not_lt.2 c30)
                              have H' := Aside0.mk H
                              clear H
                              have p13 : 0 ≤ (x6_1 : Int) := dt_
                              have q13 : x6_1 < (a0.size : Int) := dt_
                              have hx13 := bt_at a0 x6_1
                              replace p13 := eq_true p13
                              replace q13 := eq_true q13
                              have p20 : 0 ≤ (x6_1 : Int) := dt_
                              have q20 : x6_1 < (a0.size : Int) := dt_
                              have hx20 := bt_at a0 x6_1
                              replace p20 := eq_true p20
                              replace q20 := eq_true q20
                              go_wp2
                              go_roundg kj4
                              case measure => have := HK1.out; have := HJ4.out; omega
                              case rel => exact ⟨(x5_1 ++ (a0.extract (x6_1 : Int).toNat ((wrap64 (x6_1 + 1)) : Int).toNat)), (wrap64 (x6_1 + 1)), ra_, ra_, H', ⟨by have := HK1.out; have := HJ4.out; omega⟩, ⟨by repeat (first | (with_reducible first | exact HB.out | apply below_alloc | apply pw_below_drewN | apply below_drew1) | exact HB.out)⟩⟩
                            · rw [if_neg c30] at H
                              exact absurd H (by simp)
                          · rw [if_neg c29] at H
                            exact absurd H (by simp)
                        · rw [if_neg c28] at H
                          exact absurd H (by simp)
                  · rw [if_neg c12] at H
                    exact absurd H (by simp)
                · rw [if_neg c11] at H
                  exact absurd H (by simp)
        · rw [if_neg c4] at H
          have c4b0 : decide (x6_1 < (a0.size : Int)) = false := decide_eq_false c4
          clear c4
          by_cases c31 : 1 + x5_1.size ≤ 9223372036854775807
          · rw [if_pos c31] at H
            have c31b0 := eq_true c31
            have c31b1 : decide (1 + x5_1.size ≤ 9223372036854775807) = true := decide_eq_true c31
            try have c31b2 : (9223372036854775807 < 1 + x5_1.size) = False := eq_false (Nat.not_lt.2 c31)
            by_cases c32 : ((⟨#[34]⟩ : ByteArray) ++ x5_1).size + 1 ≤ 9223372036854775807
            · rw [if_pos c32] at H
              have c32b0 := eq_true c32
              try (have c32n : 1 + x5_1.size + 1 ≤ 9223372036854775807 := (by have h_ := c32; simp only [ByteArray.size_append] at h_; exact h_); have c32m := eq_false (Nat.not_lt.2 c32n))
              have c32b1 : decide (((⟨#[34]⟩ : ByteArray) ++ x5_1).size + 1 ≤ 9223372036854775807) = true := decide_eq_true c32
              try have c32b2 : (9223372036854775807 < ((⟨#[34]⟩ : ByteArray) ++ x5_1).size + 1) = False := eq_false (Nat.not_lt.2 c32)
              replace H := Option.bind_eq_some_iff.mp H
              obtain ⟨⟨t447, t448, t449, t450⟩, A330, H⟩ := H
              replace H : ((val_Text.f k1 3 0 a0).bind fun bt452 => (if x5_1.size + 1 ≤ 9223372036854775807 then (if ((⟨#[34]⟩ : ByteArray) ++ x5_1).size + 2 ≤ 9223372036854775807 then (if ((⟨#[34]⟩ : ByteArray) ++ x5_1).size + 3 ≤ 9223372036854775807 then ((some (([(⟨#[34]⟩ : ByteArray) ++ x5_1, x5_1 ++ (⟨#[34]⟩ : ByteArray), ((⟨#[34]⟩ : ByteArray) ++ x5_1) ++ (⟨#[92, 34]⟩ : ByteArray), ((⟨#[34]⟩ : ByteArray) ++ x5_1) ++ (⟨#[92, 97, 34]⟩ : ByteArray), ((⟨#[34]⟩ : ByteArray) ++ x5_1) ++ (⟨#[1, 34]⟩ : ByteArray), ((⟨#[34]⟩ : ByteArray) ++ x5_1) ++ (⟨#[34, 34]⟩ : ByteArray), ((⟨#[34]⟩ : ByteArray) ++ x5_1) ++ (⟨#[34, 32]⟩ : ByteArray)] : List ByteArray) : List ByteArray)).bind fun y454 => (if 0 ≤ (wrap64 (Int.tmod (IntKind.u64.wrap (a1)) 7)) then (if (wrap64 (Int.tmod (IntKind.u64.wrap (a1)) 7)) < (y454.length : Int) then ((val_Parse.f k1 (rdOf ByteArray.empty y454 (wrap64 (Int.tmod (IntKind.u64.wrap (a1)) 7)))).bind fun bt458 => (if (wrap64 (Int.tmod (IntKind.u64.wrap (a1)) 7)) = 1 then (if (x5_1.size : Int) > 0 then (if 0 < (x5_1.size : Int) then (constablelaw01_ValStrings.j2 k1 a0 x5_1 t450 bt452.1 bt452.2 bt458.2.2.2 ((bt x5_1 0) == 34) t447 t448 t449 bt458.1 bt458.2.1 bt458.2.2.1) else (none)) else (constablelaw01_ValStrings.j2 k1 a0 x5_1 t450 bt452.1 bt452.2 bt458.2.2.2 false t447 t448 t449 bt458.1 bt458.2.1 bt458.2.2.1)) else (constablelaw01_ValStrings.j2 k1 a0 x5_1 t450 bt452.1 bt452.2 bt458.2.2.2 false t447 t448 t449 bt458.1 bt458.2.1 bt458.2.2.1))) else (none)) else (none))) else (none)) else (none)) else (none))) = some r := H
              have A33 := Aside0.mk A330
              clear A330
              replace H := Option.bind_eq_some_iff.mp H
              obtain ⟨⟨t452, t453⟩, A340, H⟩ := H
              replace H : (if x5_1.size + 1 ≤ 9223372036854775807 then (if ((⟨#[34]⟩ : ByteArray) ++ x5_1).size + 2 ≤ 9223372036854775807 then (if ((⟨#[34]⟩ : ByteArray) ++ x5_1).size + 3 ≤ 9223372036854775807 then ((some (([(⟨#[34]⟩ : ByteArray) ++ x5_1, x5_1 ++ (⟨#[34]⟩ : ByteArray), ((⟨#[34]⟩ : ByteArray) ++ x5_1) ++ (⟨#[92, 34]⟩ : ByteArray), ((⟨#[34]⟩ : ByteArray) ++ x5_1) ++ (⟨#[92, 97, 34]⟩ : ByteArray), ((⟨#[34]⟩ : ByteArray) ++ x5_1) ++ (⟨#[1, 34]⟩ : ByteArray), ((⟨#[34]⟩ : ByteArray) ++ x5_1) ++ (⟨#[34, 34]⟩ : ByteArray), ((⟨#[34]⟩ : ByteArray) ++ x5_1) ++ (⟨#[34, 32]⟩ : ByteArray)] : List ByteArray) : List ByteArray)).bind fun y454 => (if 0 ≤ (wrap64 (Int.tmod (IntKind.u64.wrap (a1)) 7)) then (if (wrap64 (Int.tmod (IntKind.u64.wrap (a1)) 7)) < (y454.length : Int) then ((val_Parse.f k1 (rdOf ByteArray.empty y454 (wrap64 (Int.tmod (IntKind.u64.wrap (a1)) 7)))).bind fun bt458 => (if (wrap64 (Int.tmod (IntKind.u64.wrap (a1)) 7)) = 1 then (if (x5_1.size : Int) > 0 then (if 0 < (x5_1.size : Int) then (constablelaw01_ValStrings.j2 k1 a0 x5_1 t450 t452 t453 bt458.2.2.2 ((bt x5_1 0) == 34) t447 t448 t449 bt458.1 bt458.2.1 bt458.2.2.1) else (none)) else (constablelaw01_ValStrings.j2 k1 a0 x5_1 t450 t452 t453 bt458.2.2.2 false t447 t448 t449 bt458.1 bt458.2.1 bt458.2.2.1)) else (constablelaw01_ValStrings.j2 k1 a0 x5_1 t450 t452 t453 bt458.2.2.2 false t447 t448 t449 bt458.1 bt458.2.1 bt458.2.2.1))) else (none)) else (none))) else (none)) else (none)) else (none)) = some r := H
              have A34 := Aside0.mk A340
              clear A340
              by_cases c35 : x5_1.size + 1 ≤ 9223372036854775807
              · rw [if_pos c35] at H
                have c35b0 := eq_true c35
                have c35b1 : decide (x5_1.size + 1 ≤ 9223372036854775807) = true := decide_eq_true c35
                try have c35b2 : (9223372036854775807 < x5_1.size + 1) = False := eq_false (Nat.not_lt.2 c35)
                by_cases c36 : ((⟨#[34]⟩ : ByteArray) ++ x5_1).size + 2 ≤ 9223372036854775807
                · rw [if_pos c36] at H
                  have c36b0 := eq_true c36
                  try (have c36n : 1 + x5_1.size + 2 ≤ 9223372036854775807 := (by have h_ := c36; simp only [ByteArray.size_append] at h_; exact h_); have c36m := eq_false (Nat.not_lt.2 c36n))
                  have c36b1 : decide (((⟨#[34]⟩ : ByteArray) ++ x5_1).size + 2 ≤ 9223372036854775807) = true := decide_eq_true c36
                  try have c36b2 : (9223372036854775807 < ((⟨#[34]⟩ : ByteArray) ++ x5_1).size + 2) = False := eq_false (Nat.not_lt.2 c36)
                  by_cases c37 : ((⟨#[34]⟩ : ByteArray) ++ x5_1).size + 3 ≤ 9223372036854775807
                  · rw [if_pos c37] at H
                    have c37b0 := eq_true c37
                    try (have c37n : 1 + x5_1.size + 3 ≤ 9223372036854775807 := (by have h_ := c37; simp only [ByteArray.size_append] at h_; exact h_); have c37m := eq_false (Nat.not_lt.2 c37n))
                    have c37b1 : decide (((⟨#[34]⟩ : ByteArray) ++ x5_1).size + 3 ≤ 9223372036854775807) = true := decide_eq_true c37
                    try have c37b2 : (9223372036854775807 < ((⟨#[34]⟩ : ByteArray) ++ x5_1).size + 3) = False := eq_false (Nat.not_lt.2 c37)
                    obtain ⟨y454, hy454⟩ : ∃ y_ : List ByteArray, y_ = (([(⟨#[34]⟩ : ByteArray) ++ x5_1, x5_1 ++ (⟨#[34]⟩ : ByteArray), ((⟨#[34]⟩ : ByteArray) ++ x5_1) ++ (⟨#[92, 34]⟩ : ByteArray), ((⟨#[34]⟩ : ByteArray) ++ x5_1) ++ (⟨#[92, 97, 34]⟩ : ByteArray), ((⟨#[34]⟩ : ByteArray) ++ x5_1) ++ (⟨#[1, 34]⟩ : ByteArray), ((⟨#[34]⟩ : ByteArray) ++ x5_1) ++ (⟨#[34, 34]⟩ : ByteArray), ((⟨#[34]⟩ : ByteArray) ++ x5_1) ++ (⟨#[34, 32]⟩ : ByteArray)] : List ByteArray)) := ⟨_, rfl⟩
                    replace H : (if 0 ≤ (wrap64 (Int.tmod (IntKind.u64.wrap (a1)) 7)) then (if (wrap64 (Int.tmod (IntKind.u64.wrap (a1)) 7)) < (y454.length : Int) then ((val_Parse.f k1 (rdOf ByteArray.empty y454 (wrap64 (Int.tmod (IntKind.u64.wrap (a1)) 7)))).bind fun bt458 => (if (wrap64 (Int.tmod (IntKind.u64.wrap (a1)) 7)) = 1 then (if (x5_1.size : Int) > 0 then (if 0 < (x5_1.size : Int) then (constablelaw01_ValStrings.j2 k1 a0 x5_1 t450 t452 t453 bt458.2.2.2 ((bt x5_1 0) == 34) t447 t448 t449 bt458.1 bt458.2.1 bt458.2.2.1) else (none)) else (constablelaw01_ValStrings.j2 k1 a0 x5_1 t450 t452 t453 bt458.2.2.2 false t447 t448 t449 bt458.1 bt458.2.1 bt458.2.2.1)) else (constablelaw01_ValStrings.j2 k1 a0 x5_1 t450 t452 t453 bt458.2.2.2 false t447 t448 t449 bt458.1 bt458.2.1 bt458.2.2.1))) else (none)) else (none)) = some r := by first | (rw [hy454]; with_reducible exact H) | (have H2_ := (Option.bind_some _ _).symm.trans H; rw [hy454]; with_reducible exact H2_) | (have H2_ := (Option.bind_some _ _).symm.trans H; with_reducible exact H2_) | with_reducible exact H | (rw [hy454]; exact H) | exact H
                    have Ny454 := Aside0.mk hy454
                    clear hy454
                    obtain ⟨ji38, hji38⟩ : ∃ j_ : Int, (wrap64 (Int.tmod (IntKind.u64.wrap (a1)) 7)) = j_ := ⟨_, rfl⟩
                    replace H : (if 0 ≤ (ji38) then (if (ji38) < (y454.length : Int) then ((val_Parse.f k1 (rdOf ByteArray.empty y454 (ji38))).bind fun bt458 => (if (ji38) = 1 then (if (x5_1.size : Int) > 0 then (if 0 < (x5_1.size : Int) then (constablelaw01_ValStrings.j2 k1 a0 x5_1 t450 t452 t453 bt458.2.2.2 ((bt x5_1 0) == 34) t447 t448 t449 bt458.1 bt458.2.1 bt458.2.2.1) else (none)) else (constablelaw01_ValStrings.j2 k1 a0 x5_1 t450 t452 t453 bt458.2.2.2 false t447 t448 t449 bt458.1 bt458.2.1 bt458.2.2.1)) else (constablelaw01_ValStrings.j2 k1 a0 x5_1 t450 t452 t453 bt458.2.2.2 false t447 t448 t449 bt458.1 bt458.2.1 bt458.2.2.1))) else (none)) else (none)) = some r := by first | (rw [hji38] at H; exact H) | (simp only [hji38] at H ⊢; exact H)
                    (try rw [hji38] at A33)
                    (try rw [hji38] at A34)
                    have hji38w : (IntKind.i64.wrap (Int.tmod (IntKind.u64.wrap (a1)) 7)) = ji38 := (i64_w _).trans hji38
                    by_cases c39 : 0 ≤ (ji38)
                    · rw [if_pos c39] at H
                      have c39b0 : decide (0 ≤ (ji38)) = true := decide_eq_true c39
                      clear c39
                      by_cases c40 : (ji38) < (y454.length : Int)
                      · rw [if_pos c40] at H
                        have c40b0 : decide ((ji38) < (y454.length : Int)) = true := decide_eq_true c40
                        clear c40
                        replace H := Option.bind_eq_some_iff.mp H
                        obtain ⟨⟨t458, t459, t460, t461⟩, A410, H⟩ := H
                        replace H : (if (ji38) = 1 then (if (x5_1.size : Int) > 0 then (if 0 < (x5_1.size : Int) then (constablelaw01_ValStrings.j2 k1 a0 x5_1 t450 t452 t453 t461 ((bt x5_1 0) == 34) t447 t448 t449 t458 t459 t460) else (none)) else (constablelaw01_ValStrings.j2 k1 a0 x5_1 t450 t452 t453 t461 false t447 t448 t449 t458 t459 t460)) else (constablelaw01_ValStrings.j2 k1 a0 x5_1 t450 t452 t453 t461 false t447 t448 t449 t458 t459 t460)) = some r := H
                        have A41 := Aside0.mk A410
                        clear A410
                        have HC42 := Aside0.mk H
                        clear H
                        go_upto_region 17 with (first | ((with_reducible refine gate_callee (f := 27) rfl ?_); refine goesL_ (some 57) rfl rfl Tryd.func27 (by kernel_rfl) rfl #[.string (((⟨#[34]⟩ : ByteArray) ++ x5_1) ++ (⟨#[34]⟩ : ByteArray))] rfl ga_ ?_; (with_reducible refine (val_Parse.calls k1 (((⟨#[34]⟩ : ByteArray) ++ x5_1) ++ (⟨#[34]⟩ : ByteArray)) t447 t448 t449 t450 _ A33.out (ee_ HL_ (be_ HB))).mono ?_); rintro e w43 ⟨rfl, hb⟩; refine ⟨_, rfl, ?_⟩; have n0_ := bs_ (be_ HB) hb; clear HB; have HB := n0_; clear n0_; (try clear hb); (try clear hb2); (try clear hk); (try clear hi)) | ((with_reducible refine gate_dst (N := 7) rfl ?_); (try (refine gate_guard (by rfl) ?_; dsimp only)); refine box_event ?hg (N := 7) ?hd (cs := #[.int .i64 0, .int .i64 0, .string (⟨#[]⟩ : ByteArray)]) (t := 44) ?hr ?_; (case hd => rfl); (case hg => rfl); (case hr => first | (go_simp; done) | (go_simp; rfl)); intro gb451 hg w44 hbox hb; have n0_ := bs_ (be_ HB) hb; have n1_ := Aside0.mk (hbox); have n2_ := gs_ hg (be_ HB); have n3_ := gs_ hg (be_ HB); clear HB; have HB := n0_; have BK451 := n1_; have GW451 := n2_; have GE451 := n3_; clear n0_ n1_ n2_ n3_; clear hb hbox hg; have hcz45_0 : w44.cell? ⟨gb451, 0, none⟩ = some (.int .i64 0) := (blk_cell BK451.out 0).trans rfl; have hcz45_1 : w44.cell? ⟨gb451, 1, none⟩ = some (.int .i64 0) := (blk_cell BK451.out 1).trans rfl; have hcz45_2 : w44.cell? ⟨gb451, 2, none⟩ = some (.string (⟨#[]⟩ : ByteArray)) := (blk_cell BK451.out 2).trans rfl; have hfz45_0 := blk_frozen BK451.out 0; have hfz45_1 := blk_frozen BK451.out 1; have hfz45_2 := blk_frozen BK451.out 2) | ((with_reducible refine gate_callee (f := 26) rfl ?_); refine goesL_ (some 63) rfl rfl Tryd.func26 (by kernel_rfl) rfl #[.agg #[.int .i64 3, .int .i64 0, .string a0]] rfl ga_ ?_; (with_reducible refine (val_Text.calls k1 3 0 a0 t452 t453 _ A34.out (et_ HL_ (be_ HB))).mono ?_); rintro e w46 ⟨rfl, hb⟩; refine ⟨_, rfl, ?_⟩; have n0_ := Aside0.mk (blk_below (o := .cells #[.int .i64 t447, .int .i64 t448, .string t449] 44 (0, 0)) (bp_ BK451) hb); have n1_ := bs_ (be_ HB) hb; clear BK451; clear HB; have BK451 := n0_; have HB := n1_; clear n0_ n1_; (try clear hcz45_0 hcz45_1 hcz45_2 hfz45_0 hfz45_1 hfz45_2); (try clear hb); (try clear hb2); (try clear hk); (try clear hi)) | ((with_reducible refine gate_dst (N := 85) rfl ?_); (try (refine gate_guard (by rfl) ?_; dsimp only)); refine Kd.R_lit Kd.string _ 9 ?hg (N := 85) ?hd (xs := ([(⟨#[34]⟩ : ByteArray) ++ x5_1, x5_1 ++ (⟨#[34]⟩ : ByteArray), ((⟨#[34]⟩ : ByteArray) ++ x5_1) ++ (⟨#[92, 34]⟩ : ByteArray), ((⟨#[34]⟩ : ByteArray) ++ x5_1) ++ (⟨#[92, 97, 34]⟩ : ByteArray), ((⟨#[34]⟩ : ByteArray) ++ x5_1) ++ (⟨#[1, 34]⟩ : ByteArray), ((⟨#[34]⟩ : ByteArray) ++ x5_1) ++ (⟨#[34, 34]⟩ : ByteArray), ((⟨#[34]⟩ : ByteArray) ++ x5_1) ++ (⟨#[34, 32]⟩ : ByteArray)] : List ByteArray)) (inner := [.string ((⟨#[34]⟩ : ByteArray) ++ x5_1), .string (x5_1 ++ (⟨#[34]⟩ : ByteArray)), .string (((⟨#[34]⟩ : ByteArray) ++ x5_1) ++ (⟨#[92, 34]⟩ : ByteArray)), .string (((⟨#[34]⟩ : ByteArray) ++ x5_1) ++ (⟨#[92, 97, 34]⟩ : ByteArray)), .string (((⟨#[34]⟩ : ByteArray) ++ x5_1) ++ (⟨#[1, 34]⟩ : ByteArray)), .string (((⟨#[34]⟩ : ByteArray) ++ x5_1) ++ (⟨#[34, 34]⟩ : ByteArray)), .string (((⟨#[34]⟩ : ByteArray) ++ x5_1) ++ (⟨#[34, 32]⟩ : ByteArray))]) (ok := fun _ => True) (okp := fun _ => True) ?hr ?hp (fun _ hk => hk) trivial (Below.refl _ _) (Nat.le_refl _) (by simp) ?_; (case hd => rfl); (case hg => rfl); (case hr => first | (go_simp; done) | (go_simp; rfl)); (case hp => exact (Reps.one (show Kd.M Kd.string _ _ _ ((⟨#[34]⟩ : ByteArray) ++ x5_1) [.string ((⟨#[34]⟩ : ByteArray) ++ x5_1)] from rfl) (Reps.one (show Kd.M Kd.string _ _ _ (x5_1 ++ (⟨#[34]⟩ : ByteArray)) [.string (x5_1 ++ (⟨#[34]⟩ : ByteArray))] from rfl) (Reps.one (show Kd.M Kd.string _ _ _ (((⟨#[34]⟩ : ByteArray) ++ x5_1) ++ (⟨#[92, 34]⟩ : ByteArray)) [.string (((⟨#[34]⟩ : ByteArray) ++ x5_1) ++ (⟨#[92, 34]⟩ : ByteArray))] from rfl) (Reps.one (show Kd.M Kd.string _ _ _ (((⟨#[34]⟩ : ByteArray) ++ x5_1) ++ (⟨#[92, 97, 34]⟩ : ByteArray)) [.string (((⟨#[34]⟩ : ByteArray) ++ x5_1) ++ (⟨#[92, 97, 34]⟩ : ByteArray))] from rfl) (Reps.one (show Kd.M Kd.string _ _ _ (((⟨#[34]⟩ : ByteArray) ++ x5_1) ++ (⟨#[1, 34]⟩ : ByteArray)) [.string (((⟨#[34]⟩ : ByteArray) ++ x5_1) ++ (⟨#[1, 34]⟩ : ByteArray))] from rfl) (Reps.one (show Kd.M Kd.string _ _ _ (((⟨#[34]⟩ : ByteArray) ++ x5_1) ++ (⟨#[34, 34]⟩ : ByteArray)) [.string (((⟨#[34]⟩ : ByteArray) ++ x5_1) ++ (⟨#[34, 34]⟩ : ByteArray))] from rfl) (Reps.one (show Kd.M Kd.string _ _ _ (((⟨#[34]⟩ : ByteArray) ++ x5_1) ++ (⟨#[34, 32]⟩ : ByteArray)) [.string (((⟨#[34]⟩ : ByteArray) ++ x5_1) ++ (⟨#[34, 32]⟩ : ByteArray))] from rfl) (Reps.none _ _))))))))); intro v455 w47 ho48 hb hg_ hnew_; clear hg_ hnew_; (first | rw [← Ny454.out] at ho48 | (simp only [Int.reduceToNat] at ho48; rw [← Ny454.out] at ho48)); have n0_ := Aside0.mk (Kd.R_lower ho48 (below_size (be_ HB))); have n1_ := bb_ (bu_ BK451) hb; have n2_ := bs_ (be_ HB) hb; clear BK451; clear HB; have HO456 := n0_; have BK451 := n1_; have HB := n2_; clear n0_ n1_ n2_; clear hb ho48; obtain ⟨Ao49, co49, eo49⟩ := Kd.R_slice HO456.out; subst eo49; have p457 : 0 ≤ ((ji38) : Int) := dt_; have q457 : (ji38) < (y454.length : Int) := dt_; obtain ⟨ad457, e457, hx457_0⟩ := Kd.at_string (Kd.R_reads' HO456.out).2.2 (ji38) p457 q457; cases e457; replace p457 := eq_true p457; replace q457 := eq_true q457) | ((with_reducible refine gate_callee (f := 27) rfl ?_); refine goesL_ (some 95) rfl rfl Tryd.func27 (by kernel_rfl) rfl #[.string (rdOf ByteArray.empty y454 (ji38))] rfl (by (try simp only [List.map_toArray, List.map_cons, List.map_nil]); first | done | (simp only [hji38]; rfl) | rfl | (simp only [List.length_drop, List.length_take]; rfl)) ?_; (with_reducible refine (val_Parse.calls k1 (rdOf ByteArray.empty y454 (ji38)) t458 t459 t460 t461 _ A41.out (ee_ HL_ (be_ HB))).mono ?_); rintro e w50 ⟨rfl, hb⟩; refine ⟨_, rfl, ?_⟩; have n0_ := kb_ (ku_ HO456.out) hb; have n1_ := bb_ (bu_ BK451) hb; have n2_ := bs_ (be_ HB) hb; clear HO456; clear BK451; clear HB; have HO456 := n0_; have BK451 := n1_; have HB := n2_; clear n0_ n1_ n2_; (try clear hb); (try clear hb2); (try clear hk); (try clear hi)) | ((with_reducible refine gate_dst (N := 13) rfl ?_); (try (refine gate_guard (by rfl) ?_; dsimp only)); refine box_event ?hg (N := 13) ?hd (cs := #[.int .i64 0, .int .i64 0, .string (⟨#[]⟩ : ByteArray)]) (t := 44) ?hr ?_; (case hd => rfl); (case hg => rfl); (case hr => first | (go_simp; done) | (go_simp; rfl)); intro gb462 hg w51 hbox hb; have n0_ := kb_ (ku_ HO456.out) hb; have n1_ := bb_ (bu_ BK451) hb; have n2_ := bs_ (be_ HB) hb; have n3_ := Aside0.mk (hbox); have n4_ := gs_ hg (be_ HB); have n5_ := gs_ hg (be_ HB); have n6_ := nl_ hg (bu_ BK451); have n7_ := ng_ hg (bu_ BK451); clear HO456; clear BK451; clear HB; have HO456 := n0_; have BK451 := n1_; have HB := n2_; have BK462 := n3_; have GW462 := n4_; have GE462 := n5_; have NB451_462 := n6_; have NB462_451 := n7_; clear n0_ n1_ n2_ n3_ n4_ n5_ n6_ n7_; clear hb hbox hg; have hnb52 := NB462_451.out; have hnc52 := NB451_462.out; have hcz53_0 : w51.cell? ⟨gb462, 0, none⟩ = some (.int .i64 0) := (blk_cell BK462.out 0).trans rfl; have hcz53_1 : w51.cell? ⟨gb462, 1, none⟩ = some (.int .i64 0) := (blk_cell BK462.out 1).trans rfl; have hcz53_2 : w51.cell? ⟨gb462, 2, none⟩ = some (.string (⟨#[]⟩ : ByteArray)) := (blk_cell BK462.out 2).trans rfl; have hfz53_0 := blk_frozen BK462.out 0; have hfz53_1 := blk_frozen BK462.out 1; have hfz53_2 := blk_frozen BK462.out 2))
                        (try simp only [Act.put, List.setIfInBounds_toArray, List.set_cons_zero, List.set_cons_succ])
                        go_cut [109] (fun v109 wc => ∃ (kq : Nat) (x109_41 : Bool), v109 = .bool x109_41 ∧ Aside0 (constablelaw01_ValStrings.j2 kq a0 x5_1 t450 t452 t453 t461 x109_41 t447 t448 t449 t458 t459 t460 = some r) ∧ Aside0 (kq ≤ k1) ∧ Aside0 (wc.heap[gb451]? = some (.cells #[.int .i64 t447, .int .i64 t448, .string t449] 44 (0, 0))) ∧ Aside0 (wc.heap[gb462]? = some (.cells #[.int .i64 t458, .int .i64 t459, .string t460] 44 (0, 0))) ∧ Aside0 (Below w.heap.size w wc))
                        case first =>
                          have H := HC42.out
                          clear HC42
                          by_cases c54 : (ji38) = 1
                          · rw [if_pos c54] at H
                            obtain ⟨c54b0, c54b1⟩ := eqB_ c54
                            clear c54
                            (first | rw [c54b0] | (simp only [i64_w, i32_w]; rw [c54b0]) | skip)
                            by_cases c55 : (x5_1.size : Int) > 0
                            · rw [if_pos c55] at H
                              have c55b0 : decide (0 < (x5_1.size : Int)) = true := decide_eq_true c55
                              have c55b1 : decide (0 < x5_1.size) = true := decide_eq_true (by omega)
                              clear c55
                              by_cases c56 : 0 < (x5_1.size : Int)
                              · rw [if_pos c56] at H
                                have c56b0 : decide (0 < (x5_1.size : Int)) = true := decide_eq_true c56
                                have c56b1 : decide (0 < x5_1.size) = true := decide_eq_true (by omega)
                                clear c56
                                have H' := Aside0.mk H
                                clear H
                                have p57 : 0 ≤ (0 : Int) := (by omega)
                                have q57 : 0 < x5_1.size := (by have : (0 : Int) < (x5_1.size : Int) := dt_; omega)
                                have hx57 : ∀ h : 0 < x5_1.size, ((x5_1[0]'h).toNat : Int) = bt x5_1 0 := bt_at x5_1 0
                                clear p57
                                have qi57 : (0 < (x5_1.size : Int)) = True := eq_true dt_
                                replace q57 := eq_true q57
                                go_wp2
                                go_meet
                                case rel => exact ⟨_, (((bt x5_1 0) == 34)), ra_, H', ⟨by have := HK1.out; first | omega | exact Nat.le_refl _⟩, ⟨by (with_reducible repeat (first | refine blk_drewN ?_ _ | refine blk_drew ?_ | refine blk_alloc ?_ _)); refine blk_far ?_ NB451_462.out _; (with_reducible repeat (first | refine blk_drewN ?_ _ | refine blk_drew ?_ | refine blk_alloc ?_ _)); refine blk_far ?_ NB451_462.out _; (with_reducible repeat (first | refine blk_drewN ?_ _ | refine blk_drew ?_ | refine blk_alloc ?_ _)); refine blk_far ?_ NB451_462.out _; (with_reducible repeat (first | refine blk_drewN ?_ _ | refine blk_drew ?_ | refine blk_alloc ?_ _)); exact BK451.out⟩, ⟨by (with_reducible repeat (first | refine blk_drewN ?_ _ | refine blk_drew ?_ | refine blk_alloc ?_ _)); refine blk_put (cs := #[.int .i64 t458, .int .i64 t459, .string (⟨#[]⟩ : ByteArray)]) ?_ 2 _ rfl; (with_reducible repeat (first | refine blk_drewN ?_ _ | refine blk_drew ?_ | refine blk_alloc ?_ _)); refine blk_put (cs := #[.int .i64 t458, .int .i64 0, .string (⟨#[]⟩ : ByteArray)]) ?_ 1 _ rfl; (with_reducible repeat (first | refine blk_drewN ?_ _ | refine blk_drew ?_ | refine blk_alloc ?_ _)); refine blk_put (cs := #[.int .i64 0, .int .i64 0, .string (⟨#[]⟩ : ByteArray)]) ?_ 0 _ rfl; (with_reducible repeat (first | refine blk_drewN ?_ _ | refine blk_drew ?_ | refine blk_alloc ?_ _)); exact BK462.out⟩, ⟨by repeat (first | (with_reducible first | exact HB.out | apply below_alloc | apply pw_below_drewN | apply below_drew1 | refine below_set ?_ GE451.out | refine below_set ?_ GE462.out) | exact HB.out)⟩⟩
                              · rw [if_neg c56] at H
                                exact absurd H (by simp)
                            · rw [if_neg c55] at H
                              have c55b0 : decide (0 < (x5_1.size : Int)) = false := decide_eq_false c55
                              have c55b1 : decide (0 < x5_1.size) = false := decide_eq_false (by omega)
                              clear c55
                              have H' := Aside0.mk H
                              clear H
                              go_wp2
                              go_meet
                              case rel => exact ⟨_, (false), ra_, H', ⟨by have := HK1.out; first | omega | exact Nat.le_refl _⟩, ⟨by (with_reducible repeat (first | refine blk_drewN ?_ _ | refine blk_drew ?_ | refine blk_alloc ?_ _)); refine blk_far ?_ NB451_462.out _; (with_reducible repeat (first | refine blk_drewN ?_ _ | refine blk_drew ?_ | refine blk_alloc ?_ _)); refine blk_far ?_ NB451_462.out _; (with_reducible repeat (first | refine blk_drewN ?_ _ | refine blk_drew ?_ | refine blk_alloc ?_ _)); refine blk_far ?_ NB451_462.out _; (with_reducible repeat (first | refine blk_drewN ?_ _ | refine blk_drew ?_ | refine blk_alloc ?_ _)); exact BK451.out⟩, ⟨by (with_reducible repeat (first | refine blk_drewN ?_ _ | refine blk_drew ?_ | refine blk_alloc ?_ _)); refine blk_put (cs := #[.int .i64 t458, .int .i64 t459, .string (⟨#[]⟩ : ByteArray)]) ?_ 2 _ rfl; (with_reducible repeat (first | refine blk_drewN ?_ _ | refine blk_drew ?_ | refine blk_alloc ?_ _)); refine blk_put (cs := #[.int .i64 t458, .int .i64 0, .string (⟨#[]⟩ : ByteArray)]) ?_ 1 _ rfl; (with_reducible repeat (first | refine blk_drewN ?_ _ | refine blk_drew ?_ | refine blk_alloc ?_ _)); refine blk_put (cs := #[.int .i64 0, .int .i64 0, .string (⟨#[]⟩ : ByteArray)]) ?_ 0 _ rfl; (with_reducible repeat (first | refine blk_drewN ?_ _ | refine blk_drew ?_ | refine blk_alloc ?_ _)); exact BK462.out⟩, ⟨by repeat (first | (with_reducible first | exact HB.out | apply below_alloc | apply pw_below_drewN | apply below_drew1 | refine below_set ?_ GE451.out | refine below_set ?_ GE462.out) | exact HB.out)⟩⟩
                          · rw [if_neg c54] at H
                            obtain ⟨c54b0, c54b1⟩ := neB_ c54
                            (first | rw [c54b0] | (simp only [i64_w, i32_w]; rw [c54b0]) | skip)
                            have H' := Aside0.mk H
                            clear H
                            go_wp2
                            go_meet
                            case rel => exact ⟨_, (false), ra_, H', ⟨by have := HK1.out; first | omega | exact Nat.le_refl _⟩, ⟨by (with_reducible repeat (first | refine blk_drewN ?_ _ | refine blk_drew ?_ | refine blk_alloc ?_ _)); refine blk_far ?_ NB451_462.out _; (with_reducible repeat (first | refine blk_drewN ?_ _ | refine blk_drew ?_ | refine blk_alloc ?_ _)); refine blk_far ?_ NB451_462.out _; (with_reducible repeat (first | refine blk_drewN ?_ _ | refine blk_drew ?_ | refine blk_alloc ?_ _)); refine blk_far ?_ NB451_462.out _; (with_reducible repeat (first | refine blk_drewN ?_ _ | refine blk_drew ?_ | refine blk_alloc ?_ _)); exact BK451.out⟩, ⟨by (with_reducible repeat (first | refine blk_drewN ?_ _ | refine blk_drew ?_ | refine blk_alloc ?_ _)); refine blk_put (cs := #[.int .i64 t458, .int .i64 t459, .string (⟨#[]⟩ : ByteArray)]) ?_ 2 _ rfl; (with_reducible repeat (first | refine blk_drewN ?_ _ | refine blk_drew ?_ | refine blk_alloc ?_ _)); refine blk_put (cs := #[.int .i64 t458, .int .i64 0, .string (⟨#[]⟩ : ByteArray)]) ?_ 1 _ rfl; (with_reducible repeat (first | refine blk_drewN ?_ _ | refine blk_drew ?_ | refine blk_alloc ?_ _)); refine blk_put (cs := #[.int .i64 0, .int .i64 0, .string (⟨#[]⟩ : ByteArray)]) ?_ 0 _ rfl; (with_reducible repeat (first | refine blk_drewN ?_ _ | refine blk_drew ?_ | refine blk_alloc ?_ _)); exact BK462.out⟩, ⟨by repeat (first | (with_reducible first | exact HB.out | apply below_alloc | apply pw_below_drewN | apply below_drew1 | refine below_set ?_ GE451.out | refine below_set ?_ GE462.out) | exact HB.out)⟩⟩
                        case rest =>
                          clear HC42
                          try clear c1
                          try clear p1
                          try clear q1
                          try clear hx1
                          try clear c2
                          try clear p2
                          try clear q2
                          try clear hx2
                          try clear c3
                          try clear c3b0
                          try clear c3b1
                          try clear c4
                          try clear c4b0
                          try clear p4
                          try clear q4
                          try clear hx4
                          try clear c5
                          try clear p5
                          try clear q5
                          try clear hx5
                          try clear qi5
                          try clear c6
                          try clear c6b0
                          try clear p6
                          try clear p7
                          try clear q7
                          try clear hx7
                          try clear c8
                          try clear c8b0
                          try clear p9
                          try clear q9
                          try clear hx9
                          try clear c10
                          try clear c11
                          try clear c11b0
                          try clear c12
                          try clear c12b0
                          try clear p13
                          try clear q13
                          try clear hx13
                          try clear c14
                          try clear c14b0
                          try clear c14b1
                          try clear c15
                          try clear c15b0
                          try clear c15b1
                          try clear c15b2
                          try clear c16
                          try clear c16b0
                          try clear c17
                          try clear c17b0
                          try clear c17b1
                          try clear c18
                          try clear c18b0
                          try clear c18b1
                          try clear c19
                          try clear c19b0
                          try clear c19b1
                          try clear c19b2
                          try clear p20
                          try clear q20
                          try clear hx20
                          try clear c21
                          try clear c21b0
                          try clear c21b1
                          try clear c22
                          try clear c22b0
                          try clear c22b1
                          try clear c22b2
                          try clear c23
                          try clear c23b0
                          try clear c24
                          try clear c24b0
                          try clear c24b1
                          try clear c25
                          try clear c25b0
                          try clear c25b1
                          try clear c26
                          try clear c26b0
                          try clear c26b1
                          try clear c26b2
                          try clear c27
                          try clear c27b0
                          try clear c28
                          try clear c28b0
                          try clear c28b1
                          try clear c29
                          try clear c29b0
                          try clear c29b1
                          try clear c30
                          try clear c30b0
                          try clear c30b1
                          try clear c30b2
                          try clear c31
                          try clear c31b0
                          try clear c31b1
                          try clear c31b2
                          try clear c32
                          try clear c32b0
                          try clear c32b1
                          try clear c32b2
                          try clear c35
                          try clear c35b0
                          try clear c35b1
                          try clear c35b2
                          try clear c36
                          try clear c36b0
                          try clear c36b1
                          try clear c36b2
                          try clear c37
                          try clear c37b0
                          try clear c37b1
                          try clear c37b2
                          try clear c39
                          try clear c39b0
                          try clear c40
                          try clear c40b0
                          try clear p45
                          try clear q45
                          try clear hx45
                          try clear c52
                          try clear c54
                          try clear c54b0
                          try clear c54b1
                          try clear c55
                          try clear c55b0
                          try clear c55b1
                          try clear c56
                          try clear c56b0
                          try clear c56b1
                          try clear p57
                          try clear q57
                          try clear hx57
                          try clear qi57
                          try clear hcz45_0
                          try clear hcz45_1
                          try clear hcz45_2
                          try clear hcz53_0
                          try clear hcz53_1
                          try clear hcz53_2
                          try clear hfz45_0
                          try clear hfz45_1
                          try clear hfz45_2
                          try clear hfz53_0
                          try clear hfz53_1
                          try clear hfz53_2
                          try clear hx457_0
                          try clear p13
                          try clear p2
                          try clear p20
                          try clear p457
                          try clear p57
                          try clear p7
                          try clear p9
                          try clear q13
                          try clear q20
                          try clear q457
                          try clear q57
                          try clear q7
                          try clear q9
                          obtain ⟨kq, x109_41, rfl, HA, HJ41, BK451, BK462, HB⟩ := hcut
                          cases kq with
                          | zero => exact absurd HA.out (by simp [constablelaw01_ValStrings.j2])
                          | succ kj41 =>
                            have H := HA.out
                            clear HA
                            simp only [constablelaw01_ValStrings.j2] at H
                            by_cases c58 : x109_41 = true
                            · subst c58
                              have H1 : ((constablelaw01_wakes.f kj41).bind fun t463 => (some t463)) = some r := by rw [if_pos rfl] at H; exact H
                              clear H
                              have H := H1
                              clear H1
                              replace H := Option.bind_eq_some_iff.mp H
                              obtain ⟨t463, A590, H⟩ := H
                              replace H : (some t463) = some r := H
                              have A59 := Aside0.mk A590
                              clear A590
                              obtain rfl := Option.some.inj H
                              go_wp2_with (first | ((with_reducible refine gate_callee (f := 33) rfl ?_); refine goesL_ (some 110) rfl rfl Tryd.func33 (by kernel_rfl) rfl #[] rfl ga_ ?_; (with_reducible refine (constablelaw01_wakes.calls kj41  t463 _ A59.out HR_.out (ee_ HL_ (be_ HB))).mono ?_); rintro e w60 ⟨rfl, hb⟩; refine ⟨_, rfl, ?_⟩; have n0_ := bb_ (bu_ BK451) hb; have n1_ := bb_ (bu_ BK462) hb; have n2_ := bs_ (be_ HB) hb; clear BK451; clear BK462; clear HB; have BK451 := n0_; have BK462 := n1_; have HB := n2_; clear n0_ n1_ n2_; (try clear hb); (try clear hb2); (try clear hk); (try clear hi)))
                              go_ret
                              exact ⟨by first | rfl | (simp [errW_none, errW_some] <;> rfl) | (simp only [← hji38]; first | rfl | (simp [errW_none, errW_some] <;> rfl)) | (simp [*, errW_none, errW_some] <;> rfl), by repeat (first | (with_reducible first | exact HB.out | apply below_alloc | apply pw_below_drewN | apply below_drew1 | refine below_set ?_ GE451.out | refine below_set ?_ GE462.out) | exact HB.out)⟩
                            · replace c58 := Bool.eq_false_iff.mpr c58
                              subst c58
                              have H1 : (if t450 = 0 then (if t449.toList = a0.toList then (if t447 = 3 then (if t453 = 0 then (if 1 + x5_1.size ≤ 9223372036854775807 then (if ((⟨#[34]⟩ : ByteArray) ++ x5_1).size + 1 ≤ 9223372036854775807 then (if t452.toList = (((⟨#[34]⟩ : ByteArray) ++ x5_1) ++ (⟨#[34]⟩ : ByteArray)).toList then (if t461 = 7 then (if (t458 == 0 && (t459 == 0 && (t460.toList == ([] : List UInt8)))) = true then ((constablelaw01_wakes.f kj41).bind fun t464 => (some t464)) else (some false)) else (some false)) else (some false)) else (none)) else (none)) else (some false)) else (some false)) else (some false)) else (some false)) = some r := by rw [if_neg (show ¬ (false = true) by decide)] at H; exact H
                              clear H
                              have H := H1
                              clear H1
                              by_cases c61 : t450 = 0
                              · rw [if_pos c61] at H
                                obtain ⟨c61b0, c61b1⟩ := eqB_ c61
                                clear c61
                                by_cases c62 : t449.toList = a0.toList
                                · rw [if_pos c62] at H
                                  obtain ⟨c62b0, c62b1⟩ := eqB_ c62
                                  clear c62
                                  by_cases c63 : t447 = 3
                                  · rw [if_pos c63] at H
                                    obtain ⟨c63b0, c63b1⟩ := eqB_ c63
                                    clear c63
                                    by_cases c64 : t453 = 0
                                    · rw [if_pos c64] at H
                                      obtain ⟨c64b0, c64b1⟩ := eqB_ c64
                                      clear c64
                                      by_cases c65 : 1 + x5_1.size ≤ 9223372036854775807
                                      · rw [if_pos c65] at H
                                        have c65b0 := eq_true c65
                                        have c65b1 : decide (1 + x5_1.size ≤ 9223372036854775807) = true := decide_eq_true c65
                                        try have c65b2 : (9223372036854775807 < 1 + x5_1.size) = False := eq_false (Nat.not_lt.2 c65)
                                        by_cases c66 : ((⟨#[34]⟩ : ByteArray) ++ x5_1).size + 1 ≤ 9223372036854775807
                                        · rw [if_pos c66] at H
                                          have c66b0 := eq_true c66
                                          try (have c66n : 1 + x5_1.size + 1 ≤ 9223372036854775807 := (by have h_ := c66; simp only [ByteArray.size_append] at h_; exact h_); have c66m := eq_false (Nat.not_lt.2 c66n))
                                          have c66b1 : decide (((⟨#[34]⟩ : ByteArray) ++ x5_1).size + 1 ≤ 9223372036854775807) = true := decide_eq_true c66
                                          try have c66b2 : (9223372036854775807 < ((⟨#[34]⟩ : ByteArray) ++ x5_1).size + 1) = False := eq_false (Nat.not_lt.2 c66)
                                          by_cases c67 : t452.toList = (((⟨#[34]⟩ : ByteArray) ++ x5_1) ++ (⟨#[34]⟩ : ByteArray)).toList
                                          · rw [if_pos c67] at H
                                            obtain ⟨c67b0, c67b1⟩ := eqB_ c67
                                            clear c67
                                            by_cases c68 : t461 = 7
                                            · rw [if_pos c68] at H
                                              obtain ⟨c68b0, c68b1⟩ := eqB_ c68
                                              clear c68
                                              by_cases c69 : (t458 == 0 && (t459 == 0 && (t460.toList == ([] : List UInt8)))) = true
                                              · rw [if_pos c69] at H
                                                have c69b0 : (t458 == 0 && (t459 == 0 && (t460.toList == ([] : List UInt8)))) = true := c69
                                                (try (have c69b1 : (t458 == 0 && (t459 == 0 && (t460.toList.isEmpty))) = true := by first | simpa using c69 | (simp at c69 ⊢; exact c69)))
                                                (try (have c69b2 : decide (t458 = 0 && (t459 == 0 && (t460.toList == ([] : List UInt8)))) = true := by simpa using c69))
                                                (try (have c69b3 : (t458 == 0 && (t459 == 0 && (t460.toList == ([] : List UInt8)))) = true := by simpa using c69))
                                                clear c69
                                                replace H := Option.bind_eq_some_iff.mp H
                                                obtain ⟨t464, A700, H⟩ := H
                                                replace H : (some t464) = some r := H
                                                have A70 := Aside0.mk A700
                                                clear A700
                                                obtain rfl := Option.some.inj H
                                                have hnb71 := NB451_462.out
                                                have hnc71 := NB462_451.out
                                                have hcz72_0 : wc.cell? ⟨gb451, 0, none⟩ = some (.int .i64 t447) := (blk_cell BK451.out 0).trans rfl
                                                have hcz72_1 : wc.cell? ⟨gb451, 1, none⟩ = some (.int .i64 t448) := (blk_cell BK451.out 1).trans rfl
                                                have hcz72_2 : wc.cell? ⟨gb451, 2, none⟩ = some (.string t449) := (blk_cell BK451.out 2).trans rfl
                                                have hfz72_0 := blk_frozen BK451.out 0
                                                have hfz72_1 := blk_frozen BK451.out 1
                                                have hfz72_2 := blk_frozen BK451.out 2
                                                have hcz73_0 : wc.cell? ⟨gb462, 0, none⟩ = some (.int .i64 t458) := (blk_cell BK462.out 0).trans rfl
                                                have hcz73_1 : wc.cell? ⟨gb462, 1, none⟩ = some (.int .i64 t459) := (blk_cell BK462.out 1).trans rfl
                                                have hcz73_2 : wc.cell? ⟨gb462, 2, none⟩ = some (.string t460) := (blk_cell BK462.out 2).trans rfl
                                                have hfz73_0 := blk_frozen BK462.out 0
                                                have hfz73_1 := blk_frozen BK462.out 1
                                                have hfz73_2 := blk_frozen BK462.out 2
                                                go_wp2_with (first | (go_at_call 33; (with_reducible refine (constablelaw01_wakes.calls kj41  t464 _ A70.out HR_.out (ee_ HL_ (be_ HB))).mono ?_); rintro e w74 ⟨rfl, hb⟩; have n0_ := bb_ (bu_ BK451) hb; have n1_ := bb_ (bu_ BK462) hb; have n2_ := bs_ (be_ HB) hb; clear BK451; clear BK462; clear HB; have BK451 := n0_; have BK462 := n1_; have HB := n2_; clear n0_ n1_ n2_; (try clear hb); (try clear hb2); (try clear hk); (try clear hi)))
                                                go_ret
                                                exact ⟨by first | rfl | (simp [errW_none, errW_some] <;> rfl) | (simp only [← hji38]; first | rfl | (simp [errW_none, errW_some] <;> rfl)) | (simp [*, errW_none, errW_some] <;> rfl), by repeat (first | (with_reducible first | exact HB.out | apply below_alloc | apply pw_below_drewN | apply below_drew1 | refine below_set ?_ GE451.out | refine below_set ?_ GE462.out) | exact HB.out)⟩
                                              · rw [if_neg c69] at H
                                                have c69b0 : (t458 == 0 && (t459 == 0 && (t460.toList == ([] : List UInt8)))) = false := by simpa using c69
                                                (try (have c69b1 : (t458 == 0 && (t459 == 0 && (t460.toList.isEmpty))) = false := by first | simpa using c69 | (simp at c69 ⊢; exact c69)))
                                                (try (have c69b2 : decide (t458 = 0 && (t459 == 0 && (t460.toList == ([] : List UInt8)))) = false := by simpa using c69))
                                                (try (have c69b3 : (t458 == 0 && (t459 == 0 && (t460.toList == ([] : List UInt8)))) = false := by simpa using c69))
                                                (try (have c69b4 : ¬ (t458 = 0 && (t459 == 0 && (t460.toList == ([] : List UInt8)))) := by simpa using c69))
                                                clear c69
                                                exact absurd ((Option.some.inj H).trans HR_.out) (by decide)
                                            · rw [if_neg c68] at H
                                              obtain ⟨c68b0, c68b1⟩ := neB_ c68
                                              exact absurd ((Option.some.inj H).trans HR_.out) (by decide)
                                          · rw [if_neg c67] at H
                                            obtain ⟨c67b0, c67b1⟩ := neB_ c67
                                            exact absurd ((Option.some.inj H).trans HR_.out) (by decide)
                                        · rw [if_neg c66] at H
                                          exact absurd H (by simp)
                                      · rw [if_neg c65] at H
                                        exact absurd H (by simp)
                                    · rw [if_neg c64] at H
                                      obtain ⟨c64b0, c64b1⟩ := neB_ c64
                                      exact absurd ((Option.some.inj H).trans HR_.out) (by decide)
                                  · rw [if_neg c63] at H
                                    obtain ⟨c63b0, c63b1⟩ := neB_ c63
                                    exact absurd ((Option.some.inj H).trans HR_.out) (by decide)
                                · rw [if_neg c62] at H
                                  obtain ⟨c62b0, c62b1⟩ := neB_ c62
                                  exact absurd ((Option.some.inj H).trans HR_.out) (by decide)
                              · rw [if_neg c61] at H
                                obtain ⟨c61b0, c61b1⟩ := neB_ c61
                                exact absurd ((Option.some.inj H).trans HR_.out) (by decide)
                      · rw [if_neg c40] at H
                        exact absurd H (by simp)
                    · rw [if_neg c39] at H
                      exact absurd H (by simp)
                  · rw [if_neg c37] at H
                    exact absurd H (by simp)
                · rw [if_neg c36] at H
                  exact absurd H (by simp)
              · rw [if_neg c35] at H
                exact absurd H (by simp)
            · rw [if_neg c32] at H
              exact absurd H (by simp)
          · rw [if_neg c31] at H
            exact absurd H (by simp)
def constablelaw01_ValStrings.Pure : Prop := ∀ (a0 : ByteArray) (a1 : Int), a0.size ≤ 140737488351232 → (Lit.int .i64 a1).wf = true → ∃ k, constablelaw01_ValStrings.f k a0 a1 = some true
end Go.Proofs.YtaopajmpifenoaaDoor.P
end
section
namespace Go.Proofs.YtaopajmpifenoaaDoor.P
open Go.RowKit Go.Proofs.YtaopajmpifenoaaDoorW.PrintWords Go.Proofs.YtaopajmpifenoaaDoorW.PrintLast Go.Proofs.YtaopajmpifenoaaDoorW.PrintMore
theorem evPos {α : Type} {c : Prop} [Decidable c] {f g : Nat → Option α} {r : α} (h : c) (k : Ev f r) : Ev (fun n => if c then f n else g n) r := Ev.congr (fun _ => if_pos h) k
theorem evNeg {α : Type} {c : Prop} [Decidable c] {f g : Nat → Option α} {r : α} (h : ¬ c) (k : Ev g r) : Ev (fun n => if c then f n else g n) r := Ev.congr (fun _ => if_neg h) k
theorem evSome {α : Type} {a r : α} (h : a = r) : Ev (fun _ => some a) r := ⟨0, fun _ _ => by rw [h]⟩
theorem evShift {α : Type} {g : Nat → Option α} {r : α} (k : Ev (fun n => g (n + 1)) r) : Ev g r := Ev.step (fun _ => rfl) k
theorem evBind0 {α β : Type} {g : Option α} {f : Nat → α → Option β} {a : α} {r : β} (h : g = some a) (k : Ev (fun n => f n a) r) : Ev (fun n => g.bind (f n)) r := by subst h; exact k
theorem evCond {α : Type} {b : Bool} {f g : Nat → Option α} {r : α} (h1 : b = true → Ev f r) (h2 : b = false → Ev g r) : Ev (fun n => if b = true then f n else g n) r := by
  cases b with
  | true => exact evPos rfl (h1 rfl)
  | false => exact evNeg (by decide) (h2 rfl)
theorem evIf {α : Type} {c : Prop} [Decidable c] {f g : Nat → Option α} {r : α} (h1 : c → Ev f r) (h2 : ¬ c → Ev g r) : Ev (fun n => if c then f n else g n) r := by
  by_cases h : c
  · exact evPos h (h1 h)
  · exact evNeg h (h2 h)
end Go.Proofs.YtaopajmpifenoaaDoor.P
end
section
namespace Go.Proofs.YtaopajmpifenoaaDoor.P
open Go.RowKit Go.Proofs.YtaopajmpifenoaaDoorW.PrintWords Go.Proofs.YtaopajmpifenoaaDoorW.PrintLast Go.Proofs.YtaopajmpifenoaaDoorW.PrintMore
theorem len_codes (s : ByteArray) : (bytesOf s).length = s.size := by simp [bytesOf]
theorem bt_codes (s : ByteArray) (i : Int) : bt s i = rd (bytesOf s) i := (rd_bytesOf s i).symm
theorem codes_inj {s t : ByteArray} (h : bytesOf s = bytesOf t) : s = t := by
  have h2 : s.data.toList = t.data.toList := by
    unfold bytesOf at h
    have inj : ∀ (a b : List UInt8), a.map (fun b => ((b.toNat : Nat) : Int)) = b.map (fun b => ((b.toNat : Nat) : Int)) → a = b := by
      intro a
      induction a with
      | nil => intro b hb; cases b with
        | nil => rfl
        | cons y b => simp at hb
      | cons x a ih => intro b hb; cases b with
        | nil => simp at hb
        | cons y b =>
          simp only [List.map_cons, List.cons.injEq] at hb
          have e : x = y := UInt8.toNat_inj.1 (by omega)
          rw [e, ih b hb.2]
    exact inj _ _ h
  cases s with | mk a => cases t with | mk b => cases a; cases b; simp at h2; rw [h2]
theorem tl_data (s : ByteArray) : s.toList = s.data.toList := Lib.toList_data s
theorem tl_inj {s t : ByteArray} : s.toList = t.toList ↔ s = t := by
  constructor
  · intro h
    rw [tl_data, tl_data] at h
    exact codes_inj (by unfold bytesOf; rw [h])
  · intro h; rw [h]
theorem tl_beq (s t : ByteArray) : (s.toList == t.toList) = decide (s = t) := by
  rw [Bool.eq_iff_iff, beq_iff_eq, decide_eq_true_eq, tl_inj]
theorem tl_nil {s : ByteArray} : s.toList = [] ↔ s = ⟨#[]⟩ := by
  rw [← tl_inj]
  have : (⟨#[]⟩ : ByteArray).toList = [] := by rw [tl_data]
  rw [this]
theorem tl_beq_nil (s : ByteArray) : (s.toList == ([] : List UInt8)) = decide (s = ⟨#[]⟩) := by
  rw [Bool.eq_iff_iff, beq_iff_eq, decide_eq_true_eq, tl_nil]
theorem size_zero {s : ByteArray} : s.size = 0 ↔ s = ⟨#[]⟩ := by
  constructor
  · intro h
    apply codes_inj
    have : (bytesOf s).length = 0 := by rw [len_codes]; exact h
    rw [List.eq_nil_of_length_eq_zero this]; rfl
  · intro h; rw [h]; rfl
theorem rd_mid {p : List Int} {x : Int} {l : List Int} : rd (p ++ x :: l) p.length = x := by simp [rd, List.getD_eq_getElem?_getD]
theorem codes_split (s : ByteArray) (i : Nat) (h : i < s.size) : ∃ x, (bytesOf s).drop i = x :: (bytesOf s).drop (i + 1) ∧ bt s i = x := by
  have hl : i < (bytesOf s).length := by rw [len_codes]; exact h
  refine ⟨(bytesOf s)[i], ?_, ?_⟩
  · exact List.drop_eq_getElem_cons hl
  · rw [bt_codes]
    simp [rd, List.getD_eq_getElem?_getD, hl]
theorem back_ind {ρ : Type} (n : Nat) (l : Nat → Int → Option ρ) (spec : Nat → ρ) (hend : Ev (fun k => l k n) (spec n))
    (hstep : ∀ i : Nat, i < n → Ev (fun k => l k ((i + 1 : Nat) : Int)) (spec (i + 1)) → Ev (fun k => l k i) (spec i)) : ∀ i : Nat, i ≤ n → Ev (fun k => l k i) (spec i) := by
  intro i hi
  obtain ⟨d, rfl⟩ : ∃ d, n = i + d := ⟨n - i, by omega⟩
  induction d generalizing i with
  | zero => exact hend
  | succ d ih =>
    refine hstep i (by omega) ?_
    have := ih (i + 1) (by rw [show i + 1 + d = i + (d + 1) by omega]; exact hend) (fun j hj => hstep j (by omega)) (by omega)
    exact this
theorem wrap_succ {i n : Nat} (h : i < n) (hn : n ≤ 9223372036854775807) : wrap64 ((i : Int) + 1) = ((i + 1 : Nat) : Int) := by unfold wrap64; omega
theorem rdOf_nth {α : Type} (d : α) (l : List α) (i : Nat) (h : i < l.length) : rdOf d l i = l[i] := by simp [rdOf, List.getD_eq_getElem?_getD, h]
end Go.Proofs.YtaopajmpifenoaaDoor.P
end
section
namespace Go.Proofs.YtaopajmpifenoaaDoor.P
open Go.RowKit Go.Proofs.YtaopajmpifenoaaDoorW.PrintWords Go.Proofs.YtaopajmpifenoaaDoorW.PrintLast Go.Proofs.YtaopajmpifenoaaDoorW.PrintMore
def InB (a : Int) : Prop := -4611686018427387904 ≤ a ∧ a ≤ 4611686018427387904
instance (a : Int) : Decidable (InB a) := inferInstanceAs (Decidable (_ ∧ _))
def doS (kind a b : Int) : Int × Int :=
  if kind = 3 ∨ kind = 4 ∨ kind = 5 then
    if InB a ∧ InB b then
      if InB (if kind = 3 then a + b else if kind = 4 then a - b else a * b) then (if kind = 3 then a + b else if kind = 4 then a - b else a * b, 0) else (0, 4)
    else (0, 4)
  else (0, 3)
theorem InB_iff (a : Int) : InB a ↔ -4611686018427387904 ≤ a ∧ a ≤ 4611686018427387904 := Iff.rfl
theorem and_low {a : Int} (h0 : 0 ≤ a) (h1 : a < 18446744073709551616) : Go.bits .and .u64 a 4294967295 = a % 4294967296 :=
  bits_mask .u64 64 (by decide) (fun n h0 h1 => by rw [IntKind.wrap_u64]; omega) 32 (by decide) a h0 h1
theorem mul_parts (a b : Int) : a * b = (a / 4294967296) * (b / 4294967296) * 18446744073709551616 + ((a / 4294967296) * (b % 4294967296) + (a % 4294967296) * (b / 4294967296)) * 4294967296 + (a % 4294967296) * (b % 4294967296) := by
  have ha : a = 4294967296 * (a / 4294967296) + a % 4294967296 := by omega
  have hb : b = 4294967296 * (b / 4294967296) + b % 4294967296 := by omega
  generalize a / 4294967296 = x at *
  generalize a % 4294967296 = y at *
  generalize b / 4294967296 = z at *
  generalize b % 4294967296 = t at *
  subst ha hb
  grind
theorem mul_le2 {a b m n : Int} (h0 : 0 ≤ a) (h1 : a ≤ m) (h2 : 0 ≤ b) (h3 : b ≤ n) : 0 ≤ a * b ∧ a * b ≤ m * n :=
  ⟨Int.mul_nonneg h0 h2, Int.mul_le_mul h1 h3 h2 (by omega)⟩
theorem abs_mul (a b : Int) : (if a < 0 then -a else a) * (if b < 0 then -b else b) = if (decide (a < 0) != decide (b < 0)) = true then -(a * b) else a * b := by
  by_cases h1 : a < 0 <;> by_cases h2 : b < 0 <;> simp [h1, h2, Int.neg_mul, Int.mul_neg]
def sumS (acc : Int) : List Int → Int × Int
  | [] => (acc, 0)
  | x :: l => if (doS 3 acc x).2 = 0 then sumS (doS 3 acc x).1 l else (0, (doS 3 acc x).2)
theorem rd_at (p : List Int) (x : Int) (l : List Int) : rd (p ++ x :: l) p.length = x := by
  simp [rd, List.getD_eq_getElem?_getD]
theorem wrap_len (p : List Int) (h : p.length ≤ 140737488351232) : wrap64 ((p.length : Int) + 1) = (p.length : Int) + 1 := by unfold wrap64; omega
end Go.Proofs.YtaopajmpifenoaaDoor.P
end
section
namespace Go.Proofs.YtaopajmpifenoaaDoor.P
open Go.RowKit Go.Proofs.YtaopajmpifenoaaDoorW.PrintWords Go.Proofs.YtaopajmpifenoaaDoorW.PrintLast Go.Proofs.YtaopajmpifenoaaDoorW.PrintMore
def smallI (c : Int) : Bool := decide (97 ≤ c ∧ c ≤ 122)
def largeI (c : Int) : Bool := decide (65 ≤ c ∧ c ≤ 90)
def digitI (c : Int) : Bool := decide (48 ≤ c ∧ c ≤ 57)
def innerI (c : Int) : Bool := smallI c || largeI c || digitI c || c == 95
def plainI (c : Int) : Bool := decide (32 ≤ c ∧ c ≤ 126)
def wordS (large : Bool) (s : ByteArray) : Bool :=
  decide (1 ≤ s.size ∧ s.size ≤ 24) && (if large then largeI (bt s 0) else smallI (bt s 0)) && (bytesOf s).all innerI
def valS (kind n : Int) (s : ByteArray) : Bool :=
  if kind = 1 then decide (InB n) && decide (s = ⟨#[]⟩)
  else if kind = 2 then decide (n = 0) && wordS false s
  else if kind = 3 then decide (n = 0) && (bytesOf s).all plainI && decide (s.size ≤ 60)
  else false
theorem val_small_eq (c : Int) : val_small.f c = some (smallI c) := by
  unfold val_small.f smallI
  split
  · congr 1; rw [decide_eq_decide]; omega
  · congr 1; symm; rw [decide_eq_false_iff_not]; omega
theorem val_large_eq (c : Int) : val_large.f c = some (largeI c) := by
  unfold val_large.f largeI
  split
  · congr 1; rw [decide_eq_decide]; omega
  · congr 1; symm; rw [decide_eq_false_iff_not]; omega
theorem val_digit_eq (c : Int) : val_digit.f c = some (digitI c) := by
  unfold val_digit.f digitI
  split
  · congr 1; rw [decide_eq_decide]; omega
  · congr 1; symm; rw [decide_eq_false_iff_not]; omega
theorem all_drop {P : Int → Bool} {s : ByteArray} {i : Nat} (h : i < s.size) : ((bytesOf s).drop i).all P = (P (bt s i) && ((bytesOf s).drop (i + 1)).all P) := by
  obtain ⟨x, h1, h2⟩ := codes_split s i h
  rw [h1, h2]; rfl
theorem drop_end (s : ByteArray) : (bytesOf s).drop s.size = [] := by rw [← len_codes s]; exact List.drop_length
theorem val_symbol_l0 (s : ByteArray) (hs : s.size ≤ maxLen) : ∀ i : Nat, i ≤ s.size → Ev (fun k => val_symbol.l0 k s s.size i) (((bytesOf s).drop i).all innerI) := by
  unfold maxLen at hs
  refine back_ind s.size (fun k i => val_symbol.l0 k s s.size i) _ ?_ ?_
  · refine evShift ?_
    simp only [val_symbol.l0]
    refine evNeg (by omega) (evSome (by rw [drop_end]; rfl))
  · intro i hi ih
    refine evShift ?_
    simp only [val_symbol.l0, val_small_eq, val_large_eq, val_digit_eq, Option.bind_some]
    refine evPos (by omega) (evPos (by omega) (evPos (by omega) ?_))
    rw [all_drop hi, wrap_succ hi (by omega)]
    have e : innerI (bt s i) = (smallI (bt s i) || largeI (bt s i) || digitI (bt s i) || bt s i == 95) := rfl
    by_cases h1 : smallI (bt s i) = true
    · rw [e, h1]; simpa using ih
    · by_cases h2 : largeI (bt s i) = true
      · rw [e, h2]; simpa [h1] using ih
      · by_cases h3 : digitI (bt s i) = true
        · rw [e, h3]; simpa [h1, h2] using ih
        · by_cases h4 : bt s i = 95
          · rw [e]; simpa [h1, h2, h3, h4] using ih
          · rw [e]; simp [h1, h2, h3, h4]; exact evSome (by simp [h4])
theorem val_symbol_ev (s : ByteArray) (hs : s.size ≤ maxLen) : Ev (fun k => val_symbol.f k s) (wordS false s) := by
  have hl := val_symbol_l0 s hs 0 (by omega)
  simp only [List.drop_zero, Int.natCast_zero] at hl
  have hj : Ev (fun k => val_symbol.j0 k s true) false := by
    refine evShift ?_
    simp only [val_symbol.j0, if_true]
    exact evSome rfl
  unfold val_symbol.f wordS
  by_cases h1 : (s.size : Int) < 1
  · refine evPos h1 ?_
    have hd : decide (1 ≤ s.size ∧ s.size ≤ 24) = false := decide_eq_false (by omega)
    rw [hd]; exact hj
  · refine evNeg h1 ?_
    by_cases h2 : (s.size : Int) > 24
    · refine evPos h2 ?_
      have hd : decide (1 ≤ s.size ∧ s.size ≤ 24) = false := decide_eq_false (by omega)
      rw [hd]; exact hj
    · refine evNeg h2 (evPos (by omega) ?_)
      have hd : decide (1 ≤ s.size ∧ s.size ≤ 24) = true := decide_eq_true (by omega)
      rw [hd]
      simp only [val_small_eq, Option.bind_some, Bool.true_and]
      by_cases h3 : smallI (bt s 0) = true
      · simp only [h3, Bool.not_true]
        refine evShift ?_
        simp only [val_symbol.j0, Bool.false_eq_true, if_false]
        exact hl
      · replace h3 := Bool.eq_false_iff.mpr h3
        simp only [h3, Bool.not_false]
        exact hj
theorem val_plain_ev (s : ByteArray) (hs : s.size ≤ maxLen) : Ev (fun k => val_plain.f k s) ((bytesOf s).all plainI && decide (s.size ≤ 60)) := by
  have h : ∀ i : Nat, i ≤ s.size → Ev (fun k => val_plain.l0 k s s.size i) (((bytesOf s).drop i).all plainI && decide (s.size ≤ 60)) := by
    unfold maxLen at hs
    refine back_ind s.size (fun k i => val_plain.l0 k s s.size i) _ ?_ ?_
    · refine evShift ?_
      simp only [val_plain.l0]
      refine evNeg (by omega) (evSome (by rw [drop_end]; simp; omega))
    · intro i hi ih
      refine evShift ?_
      simp only [val_plain.l0]
      refine evPos (by omega) (evPos (by omega) (evPos (by omega) ?_))
      rw [all_drop hi, wrap_succ hi (by omega)]
      by_cases h1 : bt s i < 32
      · refine evPos h1 (evSome ?_)
        have : plainI (bt s i) = false := decide_eq_false (by omega)
        rw [this]; rfl
      · refine evNeg h1 ?_
        by_cases h2 : bt s i > 126
        · refine evPos h2 (evSome ?_)
          have : plainI (bt s i) = false := decide_eq_false (by omega)
          rw [this]; rfl
        · refine evNeg h2 ?_
          have : plainI (bt s i) = true := decide_eq_true (by omega)
          rw [this]; exact ih
  have := h 0 (by omega)
  simpa [val_plain.f] using this
theorem val_Check_ev (kind n : Int) (s : ByteArray) (hs : s.size ≤ maxLen) : Ev (fun k => val_Check.f k kind n s) (if valS kind n s then 0 else 1) := by
  unfold val_Check.f valS
  by_cases h1 : kind = 1
  · refine evPos h1 ?_
    rw [if_pos h1]
    by_cases h2 : n ≥ -4611686018427387904
    · refine evPos h2 ?_
      by_cases h3 : n ≤ 4611686018427387904
      · refine evPos h3 ?_
        rw [decide_eq_true ((InB_iff n).2 ⟨h2, h3⟩)]
        by_cases h4 : s = ⟨#[]⟩
        · exact evPos (tl_nil.2 h4) (evSome (by simp [h4]))
        · exact evNeg (fun e => h4 (tl_nil.1 e)) (evSome (by simp [h4]))
      · exact evNeg h3 (evSome (by rw [decide_eq_false (fun h => h3 ((InB_iff n).1 h).2)]; rfl))
    · exact evNeg h2 (evSome (by rw [decide_eq_false (fun h => h2 ((InB_iff n).1 h).1)]; rfl))
  · refine evNeg h1 ?_
    rw [if_neg h1]
    by_cases h2 : kind = 2
    · refine evPos h2 ?_
      rw [if_pos h2]
      by_cases h3 : n = 0
      · refine evPos h3 (Ev.bind (val_symbol_ev s hs) ?_)
        rw [decide_eq_true h3]
        cases wordS false s <;> exact evSome rfl
      · refine evNeg h3 (evSome ?_)
        rw [decide_eq_false h3]; rfl
    · refine evNeg h2 ?_
      rw [if_neg h2]
      by_cases h3 : kind = 3
      · refine evPos h3 ?_
        rw [if_pos h3]
        by_cases h4 : n = 0
        · refine evPos h4 (Ev.bind (val_plain_ev s hs) ?_)
          rw [decide_eq_true h4, Bool.true_and]
          cases ((bytesOf s).all plainI && decide (s.size ≤ 60)) <;> exact evSome rfl
        · refine evNeg h4 (evSome ?_)
          rw [decide_eq_false h4]; rfl
      · refine evNeg h3 (evSome ?_)
        rw [if_neg h3]; rfl
end Go.Proofs.YtaopajmpifenoaaDoor.P
end
section
namespace Go.Proofs.YtaopajmpifenoaaDoor.P
open Go.RowKit Go.Proofs.YtaopajmpifenoaaDoorW.PrintWords Go.Proofs.YtaopajmpifenoaaDoorW.PrintLast Go.Proofs.YtaopajmpifenoaaDoorW.PrintMore
attribute [local go_sem] max2_int min2_int max_two min_two max_three min_three max_four min_four
set_option linter.unusedVariables false
set_option linter.unusedSimpArgs false
def constableref01_Upper.f (a0 : Int) : Option (Bool) := if a0 ≥ 65 then (some (decide (a0 ≤ 90))) else (some false)
set_option maxHeartbeats 8000000 in
set_option maxRecDepth 100000 in
theorem constableref01_Upper.calls (a0 : Int) (r : Bool) (w : World) (h : constableref01_Upper.f a0 = some r) :
    Calls Tryd.prog 63 #[.int .u8 a0] w fun e w' => e = .returned (.bool r) ∧ Drawn0 w w' := by
  have H : (if a0 ≥ 65 then (some (decide (a0 ≤ 90))) else (some false)) = some r := h
  clear h
  by_cases c2 : a0 ≥ 65
  · rw [if_pos c2] at H
    have c2b0 : decide (65 ≤ a0) = true := decide_eq_true c2
    clear c2
    obtain rfl := Option.some.inj H
    go_enter Tryd.func63, Tryd.ntmps63
    go_wp2
    go_ret
    exact rz_
  · rw [if_neg c2] at H
    have c2b0 : decide (65 ≤ a0) = false := decide_eq_false c2
    clear c2
    obtain rfl := Option.some.inj H
    go_enter Tryd.func63, Tryd.ntmps63
    go_wp2
    go_ret
    exact rz_
end Go.Proofs.YtaopajmpifenoaaDoor.P
end
section
namespace Go.Proofs.YtaopajmpifenoaaDoor.P
open Go.RowKit Go.Proofs.YtaopajmpifenoaaDoorW.PrintWords Go.Proofs.YtaopajmpifenoaaDoorW.PrintLast Go.Proofs.YtaopajmpifenoaaDoorW.PrintMore
attribute [local go_sem] max2_int min2_int max_two min_two max_three min_three max_four min_four
set_option linter.unusedVariables false
set_option linter.unusedSimpArgs false
def constableref01_Lower.f (a0 : Int) : Option (Bool) := if a0 ≥ 97 then (some (decide (a0 ≤ 122))) else (some false)
set_option maxHeartbeats 8000000 in
set_option maxRecDepth 100000 in
theorem constableref01_Lower.calls (a0 : Int) (r : Bool) (w : World) (h : constableref01_Lower.f a0 = some r) :
    Calls Tryd.prog 64 #[.int .u8 a0] w fun e w' => e = .returned (.bool r) ∧ Drawn0 w w' := by
  have H : (if a0 ≥ 97 then (some (decide (a0 ≤ 122))) else (some false)) = some r := h
  clear h
  by_cases c2 : a0 ≥ 97
  · rw [if_pos c2] at H
    have c2b0 : decide (97 ≤ a0) = true := decide_eq_true c2
    clear c2
    obtain rfl := Option.some.inj H
    go_enter Tryd.func64, Tryd.ntmps64
    go_wp2
    go_ret
    exact rz_
  · rw [if_neg c2] at H
    have c2b0 : decide (97 ≤ a0) = false := decide_eq_false c2
    clear c2
    obtain rfl := Option.some.inj H
    go_enter Tryd.func64, Tryd.ntmps64
    go_wp2
    go_ret
    exact rz_
end Go.Proofs.YtaopajmpifenoaaDoor.P
end
section
namespace Go.Proofs.YtaopajmpifenoaaDoor.P
open Go.RowKit Go.Proofs.YtaopajmpifenoaaDoorW.PrintWords Go.Proofs.YtaopajmpifenoaaDoorW.PrintLast Go.Proofs.YtaopajmpifenoaaDoorW.PrintMore
attribute [local go_sem] max2_int min2_int max_two min_two max_three min_three max_four min_four
set_option linter.unusedVariables false
set_option linter.unusedSimpArgs false
def constableref01_Digit.f (a0 : Int) : Option (Bool) := if a0 ≥ 48 then (some (decide (a0 ≤ 57))) else (some false)
set_option maxHeartbeats 8000000 in
set_option maxRecDepth 100000 in
theorem constableref01_Digit.calls (a0 : Int) (r : Bool) (w : World) (h : constableref01_Digit.f a0 = some r) :
    Calls Tryd.prog 72 #[.int .u8 a0] w fun e w' => e = .returned (.bool r) ∧ Drawn0 w w' := by
  have H : (if a0 ≥ 48 then (some (decide (a0 ≤ 57))) else (some false)) = some r := h
  clear h
  by_cases c2 : a0 ≥ 48
  · rw [if_pos c2] at H
    have c2b0 : decide (48 ≤ a0) = true := decide_eq_true c2
    clear c2
    obtain rfl := Option.some.inj H
    go_enter Tryd.func72, Tryd.ntmps72
    go_wp2
    go_ret
    exact rz_
  · rw [if_neg c2] at H
    have c2b0 : decide (48 ≤ a0) = false := decide_eq_false c2
    clear c2
    obtain rfl := Option.some.inj H
    go_enter Tryd.func72, Tryd.ntmps72
    go_wp2
    go_ret
    exact rz_
end Go.Proofs.YtaopajmpifenoaaDoor.P
end
section
namespace Go.Proofs.YtaopajmpifenoaaDoor.P
open Go.RowKit Go.Proofs.YtaopajmpifenoaaDoorW.PrintWords Go.Proofs.YtaopajmpifenoaaDoorW.PrintLast Go.Proofs.YtaopajmpifenoaaDoorW.PrintMore
attribute [local go_sem] max2_int min2_int max_two min_two max_three min_three max_four min_four
set_option linter.unusedVariables false
set_option linter.unusedSimpArgs false
def constableref01_inner.f (a0 : Int) : Option (Bool) := (constableref01_Lower.f a0).bind fun t169 => (if t169 = true then (some true) else ((constableref01_Upper.f a0).bind fun t170 => (if t170 = true then (some true) else ((constableref01_Digit.f a0).bind fun t171 => (if t171 = true then (some true) else (some (a0 == 95)))))))
set_option maxHeartbeats 8000000 in
set_option maxRecDepth 100000 in
theorem constableref01_inner.calls (a0 : Int) (r : Bool) (w : World) (h : constableref01_inner.f a0 = some r) :
    Calls Tryd.prog 65 #[.int .u8 a0] w fun e w' => e = .returned (.bool r) ∧ Drawn0 w w' := by
  have H : ((constableref01_Lower.f a0).bind fun t169 => (if t169 = true then (some true) else ((constableref01_Upper.f a0).bind fun t170 => (if t170 = true then (some true) else ((constableref01_Digit.f a0).bind fun t171 => (if t171 = true then (some true) else (some (a0 == 95)))))))) = some r := h
  clear h
  replace H := Option.bind_eq_some_iff.mp H
  obtain ⟨t169, A20, H⟩ := H
  replace H : (if t169 = true then (some true) else ((constableref01_Upper.f a0).bind fun t170 => (if t170 = true then (some true) else ((constableref01_Digit.f a0).bind fun t171 => (if t171 = true then (some true) else (some (a0 == 95))))))) = some r := H
  have A2 := Aside0.mk A20
  clear A20
  by_cases c3 : t169 = true
  · subst c3
    have H1 : (some true) = some r := by rw [if_pos rfl] at H; exact H
    clear H
    have H := H1
    clear H1
    obtain rfl := Option.some.inj H
    go_enter Tryd.func65, Tryd.ntmps65
    go_wp2_with (first | ((with_reducible refine gate_callee (f := 64) rfl ?_); refine goesL_ (some 4) rfl rfl Tryd.func64 (by kernel_rfl) rfl #[.int .u8 a0] rfl ga_ ?_; (with_reducible refine (constableref01_Lower.calls a0 true _ A2.out).mono ?_); rintro e w' ⟨rfl, ⟨nd, rfl⟩⟩; refine ⟨_, rfl, ?_⟩))
    go_ret
    exact rz_
  · replace c3 := Bool.eq_false_iff.mpr c3
    subst c3
    have H1 : ((constableref01_Upper.f a0).bind fun t170 => (if t170 = true then (some true) else ((constableref01_Digit.f a0).bind fun t171 => (if t171 = true then (some true) else (some (a0 == 95)))))) = some r := by rw [if_neg (show ¬ (false = true) by decide)] at H; exact H
    clear H
    have H := H1
    clear H1
    replace H := Option.bind_eq_some_iff.mp H
    obtain ⟨t170, A40, H⟩ := H
    replace H : (if t170 = true then (some true) else ((constableref01_Digit.f a0).bind fun t171 => (if t171 = true then (some true) else (some (a0 == 95))))) = some r := H
    have A4 := Aside0.mk A40
    clear A40
    by_cases c5 : t170 = true
    · subst c5
      have H1 : (some true) = some r := by rw [if_pos rfl] at H; exact H
      clear H
      have H := H1
      clear H1
      obtain rfl := Option.some.inj H
      go_enter Tryd.func65, Tryd.ntmps65
      go_wp2_with (first | ((with_reducible refine gate_callee (f := 64) rfl ?_); refine goesL_ (some 4) rfl rfl Tryd.func64 (by kernel_rfl) rfl #[.int .u8 a0] rfl ga_ ?_; (with_reducible refine (constableref01_Lower.calls a0 false _ A2.out).mono ?_); rintro e w' ⟨rfl, ⟨nd, rfl⟩⟩; refine ⟨_, rfl, ?_⟩) | (go_at_call 63; (with_reducible refine (constableref01_Upper.calls a0 true _ A4.out).mono ?_); rintro e w' ⟨rfl, ⟨nd, rfl⟩⟩))
      go_ret
      exact rz_
    · replace c5 := Bool.eq_false_iff.mpr c5
      subst c5
      have H1 : ((constableref01_Digit.f a0).bind fun t171 => (if t171 = true then (some true) else (some (a0 == 95)))) = some r := by rw [if_neg (show ¬ (false = true) by decide)] at H; exact H
      clear H
      have H := H1
      clear H1
      replace H := Option.bind_eq_some_iff.mp H
      obtain ⟨t171, A60, H⟩ := H
      replace H : (if t171 = true then (some true) else (some (a0 == 95))) = some r := H
      have A6 := Aside0.mk A60
      clear A60
      by_cases c7 : t171 = true
      · subst c7
        have H1 : (some true) = some r := by rw [if_pos rfl] at H; exact H
        clear H
        have H := H1
        clear H1
        obtain rfl := Option.some.inj H
        go_enter Tryd.func65, Tryd.ntmps65
        go_wp2_with (first | ((with_reducible refine gate_callee (f := 64) rfl ?_); refine goesL_ (some 4) rfl rfl Tryd.func64 (by kernel_rfl) rfl #[.int .u8 a0] rfl ga_ ?_; (with_reducible refine (constableref01_Lower.calls a0 false _ A2.out).mono ?_); rintro e w' ⟨rfl, ⟨nd, rfl⟩⟩; refine ⟨_, rfl, ?_⟩) | (go_at_call 63; (with_reducible refine (constableref01_Upper.calls a0 false _ A4.out).mono ?_); rintro e w' ⟨rfl, ⟨nd, rfl⟩⟩) | (go_at_call 72; (with_reducible refine (constableref01_Digit.calls a0 true _ A6.out).mono ?_); rintro e w' ⟨rfl, ⟨nd, rfl⟩⟩))
        go_ret
        exact rz_
      · replace c7 := Bool.eq_false_iff.mpr c7
        subst c7
        have H1 : (some (a0 == 95)) = some r := by rw [if_neg (show ¬ (false = true) by decide)] at H; exact H
        clear H
        have H := H1
        clear H1
        obtain rfl := Option.some.inj H
        go_enter Tryd.func65, Tryd.ntmps65
        go_wp2_with (first | ((with_reducible refine gate_callee (f := 64) rfl ?_); refine goesL_ (some 4) rfl rfl Tryd.func64 (by kernel_rfl) rfl #[.int .u8 a0] rfl ga_ ?_; (with_reducible refine (constableref01_Lower.calls a0 false _ A2.out).mono ?_); rintro e w' ⟨rfl, ⟨nd, rfl⟩⟩; refine ⟨_, rfl, ?_⟩) | (go_at_call 63; (with_reducible refine (constableref01_Upper.calls a0 false _ A4.out).mono ?_); rintro e w' ⟨rfl, ⟨nd, rfl⟩⟩) | (go_at_call 72; (with_reducible refine (constableref01_Digit.calls a0 false _ A6.out).mono ?_); rintro e w' ⟨rfl, ⟨nd, rfl⟩⟩))
        go_ret
        exact rz_
end Go.Proofs.YtaopajmpifenoaaDoor.P
end
section
namespace Go.Proofs.YtaopajmpifenoaaDoor.P
open Go.RowKit Go.Proofs.YtaopajmpifenoaaDoorW.PrintWords Go.Proofs.YtaopajmpifenoaaDoorW.PrintLast Go.Proofs.YtaopajmpifenoaaDoorW.PrintMore
attribute [local go_sem] max2_int min2_int max_two min_two max_three min_three max_four min_four
set_option linter.unusedVariables false
set_option linter.unusedSimpArgs false
def constableref01_In.f (a0 : Int) (a1 : Int) (a2 : Int) : Option (Bool) := if a0 ≥ a1 then (some (decide (a0 ≤ a2))) else (some false)
set_option maxHeartbeats 8000000 in
set_option maxRecDepth 100000 in
theorem constableref01_In.calls (a0 : Int) (a1 : Int) (a2 : Int) (r : Bool) (w : World) (h : constableref01_In.f a0 a1 a2 = some r) :
    Calls Tryd.prog 55 #[.int .i64 a0, .int .i64 a1, .int .i64 a2] w fun e w' => e = .returned (.bool r) ∧ Drawn0 w w' := by
  have H : (if a0 ≥ a1 then (some (decide (a0 ≤ a2))) else (some false)) = some r := h
  clear h
  by_cases c4 : a0 ≥ a1
  · rw [if_pos c4] at H
    have c4b0 : decide (a1 ≤ a0) = true := decide_eq_true c4
    clear c4
    obtain rfl := Option.some.inj H
    go_enter Tryd.func55, Tryd.ntmps55
    go_wp2
    go_ret
    exact rz_
  · rw [if_neg c4] at H
    have c4b0 : decide (a1 ≤ a0) = false := decide_eq_false c4
    clear c4
    obtain rfl := Option.some.inj H
    go_enter Tryd.func55, Tryd.ntmps55
    go_wp2
    go_ret
    exact rz_
end Go.Proofs.YtaopajmpifenoaaDoor.P
end
section
namespace Go.Proofs.YtaopajmpifenoaaDoor.P
open Go.RowKit Go.Proofs.YtaopajmpifenoaaDoorW.PrintWords Go.Proofs.YtaopajmpifenoaaDoorW.PrintLast Go.Proofs.YtaopajmpifenoaaDoorW.PrintMore
attribute [local go_sem] max2_int min2_int max_two min_two max_three min_three max_four min_four
set_option linter.unusedVariables false
set_option linter.unusedSimpArgs false
mutual
def constableref01_Word.j0 : Nat → ByteArray → Bool → Option (Bool)
  | 0, _, _ => none
  | k + 1, x0, x26 => if x26 = true then (some false) else (constableref01_Word.l0 k x0 0)
def constableref01_Word.l0 : Nat → ByteArray → Int → Option (Bool)
  | 0, _, _ => none
  | k + 1, x0, x5 => if x5 < (x0.size : Int) then (if 0 ≤ x5 then ((constableref01_inner.f (bt x0 x5)).bind fun t175 => (if t175 = true then (constableref01_Word.l0 k x0 (wrap64 (x5 + 1))) else (some false))) else (none)) else (some true)
end
def constableref01_Word.f (k : Nat) (a0 : ByteArray) (a1 : Bool) : Option (Bool) := (constableref01_In.f (a0.size : Int) 1 24).bind fun t172 => (if t172 = true then (if 0 < (a0.size : Int) then ((constableref01_Upper.f (bt a0 0)).bind fun t173 => (if (a1 != t173) = true then (constableref01_Word.j0 k a0 true) else (if a1 = true then (constableref01_Word.j0 k a0 false) else ((constableref01_Lower.f (bt a0 0)).bind fun t174 => (constableref01_Word.j0 k a0 (!t174)))))) else (none)) else (constableref01_Word.j0 k a0 true))
theorem constableref01_Word.mono_l : ∀ k, (∀ y0 y1, LeO (constableref01_Word.j0 k y0 y1) (constableref01_Word.j0 (k + 1) y0 y1)) ∧ (∀ y0 y1, LeO (constableref01_Word.l0 k y0 y1) (constableref01_Word.l0 (k + 1) y0 y1))
  | 0 => ⟨fun _ _ r h => by simp [constableref01_Word.j0] at h, fun _ _ r h => by simp [constableref01_Word.l0] at h⟩
  | k + 1 => by
    obtain ⟨ih0, ih1⟩ := constableref01_Word.mono_l k
    refine ⟨?_, ?_⟩
    · intro y0 y1
      unfold constableref01_Word.j0
      repeat' first
      | (with_reducible exact ih0 _ _)
      | (with_reducible exact ih1 _ _)
      | (with_reducible exact LeO.refl _)
      | (with_reducible exact LeO.none _)
      | (with_reducible refine LeO.ite ?_ ?_)
      | (with_reducible refine LeO.bind ?_ (fun _ => ?_))
      | exact ih0 _ _
      | exact ih1 _ _
      | exact LeO.none _
      | refine LeO.ite ?_ ?_
      | refine LeO.bind ?_ (fun _ => ?_)
    · intro y0 y1
      unfold constableref01_Word.l0
      repeat' first
      | (with_reducible exact ih0 _ _)
      | (with_reducible exact ih1 _ _)
      | (with_reducible exact LeO.refl _)
      | (with_reducible exact LeO.none _)
      | (with_reducible refine LeO.ite ?_ ?_)
      | (with_reducible refine LeO.bind ?_ (fun _ => ?_))
      | exact ih0 _ _
      | exact ih1 _ _
      | exact LeO.none _
      | refine LeO.ite ?_ ?_
      | refine LeO.bind ?_ (fun _ => ?_)
theorem constableref01_Word.mono : ∀ a0 a1 k, LeO (constableref01_Word.f k a0 a1) (constableref01_Word.f (k + 1) a0 a1) := by
  intro a0 a1 k
  obtain ⟨ih0, ih1⟩ := constableref01_Word.mono_l k
  unfold constableref01_Word.f
  repeat' first
      | (with_reducible exact ih0 _ _)
      | (with_reducible exact ih1 _ _)
      | (with_reducible exact LeO.refl _)
      | (with_reducible exact LeO.none _)
      | (with_reducible refine LeO.ite ?_ ?_)
      | (with_reducible refine LeO.bind ?_ (fun _ => ?_))
      | exact ih0 _ _
      | exact ih1 _ _
      | exact LeO.none _
      | refine LeO.ite ?_ ?_
      | refine LeO.bind ?_ (fun _ => ?_)
set_option maxHeartbeats 8000000 in
set_option maxRecDepth 100000 in
theorem constableref01_Word.calls (k : Nat) (a0 : ByteArray) (a1 : Bool) (r : Bool) (w : World) (h : constableref01_Word.f k a0 a1 = some r) :
    Calls Tryd.prog 37 #[.string a0, .bool a1] w fun e w' => e = .returned (.bool r) ∧ Drawn0 w w' := by
  have H : ((constableref01_In.f (a0.size : Int) 1 24).bind fun t172 => (if t172 = true then (if 0 < (a0.size : Int) then ((constableref01_Upper.f (bt a0 0)).bind fun t173 => (if (a1 != t173) = true then (constableref01_Word.j0 k a0 true) else (if a1 = true then (constableref01_Word.j0 k a0 false) else ((constableref01_Lower.f (bt a0 0)).bind fun t174 => (constableref01_Word.j0 k a0 (!t174)))))) else (none)) else (constableref01_Word.j0 k a0 true))) = some r := h
  clear h
  have HC3 := Aside0.mk H
  clear H
  go_enter Tryd.func37, Tryd.ntmps37
  go_upto_region 1 with (fail)
  go_cut [26] (fun v26 wc => ∃ (kq : Nat) (x26_2 : Bool), v26 = .bool x26_2 ∧ Aside0 (constableref01_Word.j0 kq a0 x26_2 = some r) ∧ Aside0 (kq ≤ k) ∧ Drawn0 w wc)
  case first =>
    have H := HC3.out
    clear HC3
    replace H := Option.bind_eq_some_iff.mp H
    obtain ⟨t172, A40, H⟩ := H
    replace H : (if t172 = true then (if 0 < (a0.size : Int) then ((constableref01_Upper.f (bt a0 0)).bind fun t173 => (if (a1 != t173) = true then (constableref01_Word.j0 k a0 true) else (if a1 = true then (constableref01_Word.j0 k a0 false) else ((constableref01_Lower.f (bt a0 0)).bind fun t174 => (constableref01_Word.j0 k a0 (!t174)))))) else (none)) else (constableref01_Word.j0 k a0 true)) = some r := H
    have A4 := Aside0.mk A40
    clear A40
    by_cases c5 : t172 = true
    · subst c5
      have H1 : (if 0 < (a0.size : Int) then ((constableref01_Upper.f (bt a0 0)).bind fun t173 => (if (a1 != t173) = true then (constableref01_Word.j0 k a0 true) else (if a1 = true then (constableref01_Word.j0 k a0 false) else ((constableref01_Lower.f (bt a0 0)).bind fun t174 => (constableref01_Word.j0 k a0 (!t174)))))) else (none)) = some r := by rw [if_pos rfl] at H; exact H
      clear H
      have H := H1
      clear H1
      by_cases c6 : 0 < (a0.size : Int)
      · rw [if_pos c6] at H
        have c6b0 : decide (0 < (a0.size : Int)) = true := decide_eq_true c6
        have c6b1 : decide (0 < a0.size) = true := decide_eq_true (by omega)
        clear c6
        (first | rw [c6b0] | (simp only [i64_w, i32_w]; rw [c6b0]) | skip)
        replace H := Option.bind_eq_some_iff.mp H
        obtain ⟨t173, A80, H⟩ := H
        replace H : (if (a1 != t173) = true then (constableref01_Word.j0 k a0 true) else (if a1 = true then (constableref01_Word.j0 k a0 false) else ((constableref01_Lower.f (bt a0 0)).bind fun t174 => (constableref01_Word.j0 k a0 (!t174))))) = some r := H
        have A8 := Aside0.mk A80
        clear A80
        by_cases c9 : (a1 != t173) = true
        · rw [if_pos c9] at H
          have c9b0 : (a1 != t173) = true := c9
          (try (have c9b1 : decide (a1 = t173) = false := by simpa using c9))
          (try (have c9b2 : (a1 == t173) = false := by simpa using c9))
          (try (have c9b3 : ¬ (a1 = t173) := by simpa using c9))
          clear c9
          have H' := Aside0.mk H
          clear H
          go_wp2_with (first | ((with_reducible refine gate_callee (f := 55) rfl ?_); refine goesL_ (some 8) rfl rfl Tryd.func55 (by kernel_rfl) rfl #[.int .i64 (a0.size : Int), .int .i64 1, .int .i64 24] rfl ga_ ?_; (with_reducible refine (constableref01_In.calls (a0.size : Int) 1 24 true _ A4.out).mono ?_); rintro e w' ⟨rfl, ⟨nd, rfl⟩⟩; refine ⟨_, rfl, ?_⟩; have p7 : 0 ≤ (0 : Int) := (by omega); have q7 : 0 < a0.size := (by have : (0 : Int) < (a0.size : Int) := dt_; omega); have hx7 : ∀ h : 0 < a0.size, ((a0[0]'h).toNat : Int) = bt a0 0 := bt_at a0 0; clear p7; have qi7 : (0 < (a0.size : Int)) = True := eq_true dt_; replace q7 := eq_true q7) | (go_at_call 63; (with_reducible refine (constableref01_Upper.calls (bt a0 0) t173 _ A8.out).mono ?_); rintro e w' ⟨rfl, ⟨nd, rfl⟩⟩))
          go_meet
          case rel => exact ⟨_, (true), ra_, H', ⟨by first | omega | exact Nat.le_refl _⟩, dz_⟩
        · rw [if_neg c9] at H
          have c9b0 : (a1 != t173) = false := by simpa using c9
          (try (have c9b1 : decide (a1 = t173) = true := by simpa using c9))
          (try (have c9b2 : (a1 == t173) = true := by simpa using c9))
          clear c9
          by_cases c10 : a1 = true
          · subst c10
            have H1 : (constableref01_Word.j0 k a0 false) = some r := by rw [if_pos rfl] at H; exact H
            clear H
            have H := H1
            clear H1
            have H' := Aside0.mk H
            clear H
            go_wp2_with (first | ((with_reducible refine gate_callee (f := 55) rfl ?_); refine goesL_ (some 8) rfl rfl Tryd.func55 (by kernel_rfl) rfl #[.int .i64 (a0.size : Int), .int .i64 1, .int .i64 24] rfl ga_ ?_; (with_reducible refine (constableref01_In.calls (a0.size : Int) 1 24 true _ A4.out).mono ?_); rintro e w' ⟨rfl, ⟨nd, rfl⟩⟩; refine ⟨_, rfl, ?_⟩; have p7 : 0 ≤ (0 : Int) := (by omega); have q7 : 0 < a0.size := (by have : (0 : Int) < (a0.size : Int) := dt_; omega); have hx7 : ∀ h : 0 < a0.size, ((a0[0]'h).toNat : Int) = bt a0 0 := bt_at a0 0; clear p7; have qi7 : (0 < (a0.size : Int)) = True := eq_true dt_; replace q7 := eq_true q7) | (go_at_call 63; (with_reducible refine (constableref01_Upper.calls (bt a0 0) t173 _ A8.out).mono ?_); rintro e w' ⟨rfl, ⟨nd, rfl⟩⟩))
            go_meet
            case rel => exact ⟨_, (false), ra_, H', ⟨by first | omega | exact Nat.le_refl _⟩, dz_⟩
          · replace c10 := Bool.eq_false_iff.mpr c10
            subst c10
            have H1 : ((constableref01_Lower.f (bt a0 0)).bind fun t174 => (constableref01_Word.j0 k a0 (!t174))) = some r := by rw [if_neg (show ¬ (false = true) by decide)] at H; exact H
            clear H
            have H := H1
            clear H1
            replace H := Option.bind_eq_some_iff.mp H
            obtain ⟨t174, A120, H⟩ := H
            replace H : (constableref01_Word.j0 k a0 (!t174)) = some r := H
            have A12 := Aside0.mk A120
            clear A120
            have H' := Aside0.mk H
            clear H
            go_wp2_with (first | ((with_reducible refine gate_callee (f := 55) rfl ?_); refine goesL_ (some 8) rfl rfl Tryd.func55 (by kernel_rfl) rfl #[.int .i64 (a0.size : Int), .int .i64 1, .int .i64 24] rfl ga_ ?_; (with_reducible refine (constableref01_In.calls (a0.size : Int) 1 24 true _ A4.out).mono ?_); rintro e w' ⟨rfl, ⟨nd, rfl⟩⟩; refine ⟨_, rfl, ?_⟩; have p7 : 0 ≤ (0 : Int) := (by omega); have q7 : 0 < a0.size := (by have : (0 : Int) < (a0.size : Int) := dt_; omega); have hx7 : ∀ h : 0 < a0.size, ((a0[0]'h).toNat : Int) = bt a0 0 := bt_at a0 0; clear p7; have qi7 : (0 < (a0.size : Int)) = True := eq_true dt_; replace q7 := eq_true q7) | (go_at_call 63; (with_reducible refine (constableref01_Upper.calls (bt a0 0) t173 _ A8.out).mono ?_); rintro e w' ⟨rfl, ⟨nd, rfl⟩⟩; have p11 : 0 ≤ (0 : Int) := (by omega); have q11 : 0 < a0.size := (by have : (0 : Int) < (a0.size : Int) := dt_; omega); have hx11 : ∀ h : 0 < a0.size, ((a0[0]'h).toNat : Int) = bt a0 0 := bt_at a0 0; clear p11; have qi11 : (0 < (a0.size : Int)) = True := eq_true dt_; replace q11 := eq_true q11) | (go_at_call 64; (with_reducible refine (constableref01_Lower.calls (bt a0 0) t174 _ A12.out).mono ?_); rintro e w' ⟨rfl, ⟨nd, rfl⟩⟩))
            go_meet
            case rel => exact ⟨_, (!t174), ra_, H', ⟨by first | omega | exact Nat.le_refl _⟩, dz_⟩
      · rw [if_neg c6] at H
        exact absurd H (by simp)
    · replace c5 := Bool.eq_false_iff.mpr c5
      subst c5
      have H1 : (constableref01_Word.j0 k a0 true) = some r := by rw [if_neg (show ¬ (false = true) by decide)] at H; exact H
      clear H
      have H := H1
      clear H1
      have H' := Aside0.mk H
      clear H
      go_wp2_with (first | ((with_reducible refine gate_callee (f := 55) rfl ?_); refine goesL_ (some 8) rfl rfl Tryd.func55 (by kernel_rfl) rfl #[.int .i64 (a0.size : Int), .int .i64 1, .int .i64 24] rfl ga_ ?_; (with_reducible refine (constableref01_In.calls (a0.size : Int) 1 24 false _ A4.out).mono ?_); rintro e w' ⟨rfl, ⟨nd, rfl⟩⟩; refine ⟨_, rfl, ?_⟩))
      go_meet
      case rel => exact ⟨_, (true), ra_, H', ⟨by first | omega | exact Nat.le_refl _⟩, dz_⟩
  case rest =>
    clear HC3
    try clear c1
    try clear p1
    try clear q1
    try clear hx1
    try clear qi1
    try clear p2
    try clear c3
    try clear c5
    try clear c6
    try clear c6b0
    try clear c6b1
    try clear p7
    try clear q7
    try clear hx7
    try clear qi7
    try clear c9
    try clear c9b0
    try clear c9b1
    try clear c9b2
    try clear c10
    try clear p11
    try clear q11
    try clear hx11
    try clear qi11
    try clear p11
    try clear p7
    try clear q11
    try clear q7
    obtain ⟨kq, x26_2, rfl, HA, HJ2, ⟨mc2, rfl⟩⟩ := hcut
    cases kq with
    | zero => exact absurd HA.out (by simp [constableref01_Word.j0])
    | succ kj2 =>
      have H := HA.out
      clear HA
      simp only [constableref01_Word.j0] at H
      by_cases c13 : x26_2 = true
      · subst c13
        have H1 : (some false) = some r := by rw [if_pos rfl] at H; exact H
        clear H
        have H := H1
        clear H1
        obtain rfl := Option.some.inj H
        go_wp2
        go_ret
        exact rz_
      · replace c13 := Bool.eq_false_iff.mpr c13
        subst c13
        have H1 : (constableref01_Word.l0 kj2 a0 0) = some r := by rw [if_neg (show ¬ (false = true) by decide)] at H; exact H
        clear H
        have H := H1
        clear H1
        have H' := Aside0.mk H
        clear H
        go_wp2
        go_loopg [5] kj2 (fun kq v5 w' => ∃ (x5_2 : Int), v5 = .int .i64 x5_2 ∧ Aside0 (constableref01_Word.l0 kq a0 x5_2 = some r) ∧ Aside0 (kq ≤ kj2) ∧ Drawn0 w w')
        case atStart => exact ⟨(0), ra_, H', ⟨Nat.le_refl _⟩, dz_⟩
        case round =>
          clear H'
          try clear c1
          try clear p1
          try clear q1
          try clear hx1
          try clear qi1
          try clear c2
          try clear p2
          try clear c3
          try clear c5
          try clear c6
          try clear c6b0
          try clear c6b1
          try clear p7
          try clear q7
          try clear hx7
          try clear qi7
          try clear c9
          try clear c9b0
          try clear c9b1
          try clear c9b2
          try clear c10
          try clear p11
          try clear q11
          try clear hx11
          try clear qi11
          try clear c13
          try clear p1
          try clear p11
          try clear p2
          try clear p7
          try clear q1
          try clear q11
          try clear q7
          obtain ⟨x5_2, rfl, HA, HK2, ⟨m2, rfl⟩⟩ := hrel
          cases gk with
          | zero => exact absurd HA.out (by simp [constableref01_Word.l0])
          | succ k2 =>
            have H := HA.out
            clear HA
            simp only [constableref01_Word.l0] at H
            by_cases c14 : x5_2 < (a0.size : Int)
            · rw [if_pos c14] at H
              have c14b0 : decide (x5_2 < (a0.size : Int)) = true := decide_eq_true c14
              clear c14
              by_cases c15 : 0 ≤ x5_2
              · rw [if_pos c15] at H
                have c15b0 : decide (0 ≤ x5_2) = true := decide_eq_true c15
                clear c15
                replace H := Option.bind_eq_some_iff.mp H
                obtain ⟨t175, A170, H⟩ := H
                replace H : (if t175 = true then (constableref01_Word.l0 k2 a0 (wrap64 (x5_2 + 1))) else (some false)) = some r := H
                have A17 := Aside0.mk A170
                clear A170
                by_cases c18 : t175 = true
                · subst c18
                  have H1 : (constableref01_Word.l0 k2 a0 (wrap64 (x5_2 + 1))) = some r := by rw [if_pos rfl] at H; exact H
                  clear H
                  have H := H1
                  clear H1
                  have H' := Aside0.mk H
                  clear H
                  have p16 : 0 ≤ (x5_2 : Int) := dt_
                  have q16 : x5_2 < (a0.size : Int) := dt_
                  have hx16 := bt_at a0 x5_2
                  replace p16 := eq_true p16
                  replace q16 := eq_true q16
                  go_wp2_with (first | ((with_reducible refine gate_callee (f := 65) rfl ?_); refine goesL_ (some 36) rfl rfl Tryd.func65 (by kernel_rfl) rfl #[.int .u8 (bt a0 x5_2)] rfl ga_ ?_; (with_reducible refine (constableref01_inner.calls (bt a0 x5_2) true _ A17.out).mono ?_); rintro e w' ⟨rfl, ⟨nd, rfl⟩⟩; refine ⟨_, rfl, ?_⟩))
                  go_roundg k2
                  case measure => have := HJ2.out; have := HK2.out; omega
                  case rel => exact ⟨(wrap64 (x5_2 + 1)), ra_, H', ⟨by have := HJ2.out; have := HK2.out; omega⟩, dz_⟩
                · replace c18 := Bool.eq_false_iff.mpr c18
                  subst c18
                  have H1 : (some false) = some r := by rw [if_neg (show ¬ (false = true) by decide)] at H; exact H
                  clear H
                  have H := H1
                  clear H1
                  obtain rfl := Option.some.inj H
                  have p16 : 0 ≤ (x5_2 : Int) := dt_
                  have q16 : x5_2 < (a0.size : Int) := dt_
                  have hx16 := bt_at a0 x5_2
                  replace p16 := eq_true p16
                  replace q16 := eq_true q16
                  go_wp2_with (first | ((with_reducible refine gate_callee (f := 65) rfl ?_); refine goesL_ (some 36) rfl rfl Tryd.func65 (by kernel_rfl) rfl #[.int .u8 (bt a0 x5_2)] rfl ga_ ?_; (with_reducible refine (constableref01_inner.calls (bt a0 x5_2) false _ A17.out).mono ?_); rintro e w' ⟨rfl, ⟨nd, rfl⟩⟩; refine ⟨_, rfl, ?_⟩))
                  go_ret
                  exact rz_
              · rw [if_neg c15] at H
                exact absurd H (by simp)
            · rw [if_neg c14] at H
              have c14b0 : decide (x5_2 < (a0.size : Int)) = false := decide_eq_false c14
              clear c14
              obtain rfl := Option.some.inj H
              go_wp2
              go_ret
              exact rz_
end Go.Proofs.YtaopajmpifenoaaDoor.P
end
section
namespace Go.Proofs.YtaopajmpifenoaaDoor.P
open Go.RowKit Go.Proofs.YtaopajmpifenoaaDoorW.PrintWords Go.Proofs.YtaopajmpifenoaaDoorW.PrintLast Go.Proofs.YtaopajmpifenoaaDoorW.PrintMore
attribute [local go_sem] max2_int min2_int max_two min_two max_three min_three max_four min_four
set_option linter.unusedVariables false
set_option linter.unusedSimpArgs false
mutual
def constableref01_Value.j0 : Nat → Bool → Int → Int → ByteArray → Option (Bool)
  | 0, _, _, _, _ => none
  | k + 1, x37, x239000, x239001, x239002 => if x37 = true then (some false) else (constableref01_Value.l0 k 0 x239000 x239001 x239002)
def constableref01_Value.l0 : Nat → Int → Int → Int → ByteArray → Option (Bool)
  | 0, _, _, _, _ => none
  | k + 1, x3, x239000, x239001, x239002 => if x3 < (x239002.size : Int) then (if 0 ≤ x3 then ((constableref01_In.f (wrap64 (bt x239002 x3)) 32 126).bind fun t241 => (if t241 = true then (constableref01_Value.l0 k (wrap64 (x3 + 1)) x239000 x239001 x239002) else (some false))) else (none)) else (some true)
end
def constableref01_Value.f (k : Nat) (a0_0 : Int) (a0_1 : Int) (a0_2 : ByteArray) : Option (Bool) := if a0_0 = 1 then ((constableref01_In.f a0_1 (-4611686018427387904) 4611686018427387904).bind fun t239 => (if t239 = true then (some ((a0_2.size : Int) == 0)) else (some false))) else (if a0_0 = 2 then (if a0_1 = 0 then ((constableref01_Word.f k a0_2 false).bind fun t240 => (some t240)) else (some false)) else (if a0_0 = 3 then (if a0_1 = 0 then (constableref01_Value.j0 k (decide ((a0_2.size : Int) > 60)) a0_0 a0_1 a0_2) else (constableref01_Value.j0 k true a0_0 a0_1 a0_2)) else (some false)))
theorem constableref01_Value.mono_l : ∀ k, (∀ y0 y1 y2 y3, LeO (constableref01_Value.j0 k y0 y1 y2 y3) (constableref01_Value.j0 (k + 1) y0 y1 y2 y3)) ∧ (∀ y0 y1 y2 y3, LeO (constableref01_Value.l0 k y0 y1 y2 y3) (constableref01_Value.l0 (k + 1) y0 y1 y2 y3))
  | 0 => ⟨fun _ _ _ _ r h => by simp [constableref01_Value.j0] at h, fun _ _ _ _ r h => by simp [constableref01_Value.l0] at h⟩
  | k + 1 => by
    obtain ⟨ih0, ih1⟩ := constableref01_Value.mono_l k
    refine ⟨?_, ?_⟩
    · intro y0 y1 y2 y3
      unfold constableref01_Value.j0
      repeat' first
      | (with_reducible exact ih0 _ _ _ _)
      | (with_reducible exact ih1 _ _ _ _)
      | (with_reducible exact constableref01_Word.mono _ _ _)
      | (with_reducible exact LeO.refl _)
      | (with_reducible exact LeO.none _)
      | (with_reducible refine LeO.ite ?_ ?_)
      | (with_reducible refine LeO.bind ?_ (fun _ => ?_))
      | exact ih0 _ _ _ _
      | exact ih1 _ _ _ _
      | exact constableref01_Word.mono _ _ _
      | exact LeO.none _
      | refine LeO.ite ?_ ?_
      | refine LeO.bind ?_ (fun _ => ?_)
    · intro y0 y1 y2 y3
      unfold constableref01_Value.l0
      repeat' first
      | (with_reducible exact ih0 _ _ _ _)
      | (with_reducible exact ih1 _ _ _ _)
      | (with_reducible exact constableref01_Word.mono _ _ _)
      | (with_reducible exact LeO.refl _)
      | (with_reducible exact LeO.none _)
      | (with_reducible refine LeO.ite ?_ ?_)
      | (with_reducible refine LeO.bind ?_ (fun _ => ?_))
      | exact ih0 _ _ _ _
      | exact ih1 _ _ _ _
      | exact constableref01_Word.mono _ _ _
      | exact LeO.none _
      | refine LeO.ite ?_ ?_
      | refine LeO.bind ?_ (fun _ => ?_)
theorem constableref01_Value.mono : ∀ a0 a1 a2 k, LeO (constableref01_Value.f k a0 a1 a2) (constableref01_Value.f (k + 1) a0 a1 a2) := by
  intro a0 a1 a2 k
  obtain ⟨ih0, ih1⟩ := constableref01_Value.mono_l k
  unfold constableref01_Value.f
  repeat' first
      | (with_reducible exact ih0 _ _ _ _)
      | (with_reducible exact ih1 _ _ _ _)
      | (with_reducible exact constableref01_Word.mono _ _ _)
      | (with_reducible exact LeO.refl _)
      | (with_reducible exact LeO.none _)
      | (with_reducible refine LeO.ite ?_ ?_)
      | (with_reducible refine LeO.bind ?_ (fun _ => ?_))
      | exact ih0 _ _ _ _
      | exact ih1 _ _ _ _
      | exact constableref01_Word.mono _ _ _
      | exact LeO.none _
      | refine LeO.ite ?_ ?_
      | refine LeO.bind ?_ (fun _ => ?_)
set_option maxHeartbeats 8000000 in
set_option maxRecDepth 100000 in
theorem constableref01_Value.calls (k : Nat) (a0_0 : Int) (a0_1 : Int) (a0_2 : ByteArray) (r : Bool) (w : World) (h : constableref01_Value.f k a0_0 a0_1 a0_2 = some r) :
    Calls Tryd.prog 31 #[.agg #[.int .i64 a0_0, .int .i64 a0_1, .string a0_2]] w fun e w' => e = .returned (.bool r) ∧ Below w.heap.size w w' := by
  have hu44 := Tryd.underlying44
  have HB := Aside0.mk (Below.refl w.heap.size w)
  have H : (if a0_0 = 1 then ((constableref01_In.f a0_1 (-4611686018427387904) 4611686018427387904).bind fun t239 => (if t239 = true then (some ((a0_2.size : Int) == 0)) else (some false))) else (if a0_0 = 2 then (if a0_1 = 0 then ((constableref01_Word.f k a0_2 false).bind fun t240 => (some t240)) else (some false)) else (if a0_0 = 3 then (if a0_1 = 0 then (constableref01_Value.j0 k (decide ((a0_2.size : Int) > 60)) a0_0 a0_1 a0_2) else (constableref01_Value.j0 k true a0_0 a0_1 a0_2)) else (some false)))) = some r := h
  clear h
  by_cases c2 : a0_0 = 1
  · rw [if_pos c2] at H
    obtain ⟨c2b0, c2b1⟩ := eqB_ c2
    clear c2
    replace H := Option.bind_eq_some_iff.mp H
    obtain ⟨t239, A30, H⟩ := H
    replace H : (if t239 = true then (some ((a0_2.size : Int) == 0)) else (some false)) = some r := H
    have A3 := Aside0.mk A30
    clear A30
    by_cases c4 : t239 = true
    · subst c4
      have H1 : (some ((a0_2.size : Int) == 0)) = some r := by rw [if_pos rfl] at H; exact H
      clear H
      have H := H1
      clear H1
      obtain rfl := Option.some.inj H
      go_enter Tryd.func31, Tryd.ntmps31
      go_wp2_with (first | ((with_reducible refine gate_dst (N := 1) rfl ?_); (try (refine gate_guard (by rfl) ?_; dsimp only)); refine box_event ?hg (N := 1) ?hd (cs := #[.int .i64 a0_0, .int .i64 a0_1, .string a0_2]) (t := 44) ?hr ?_; (case hd => rfl); (case hg => rfl); (case hr => first | (go_simp; done) | (go_simp; rfl)); intro gb238 hg w5 hbox hb; have n0_ := bs_ (be_ HB) hb; have n1_ := Aside0.mk (hbox); have n2_ := gs_ hg (be_ HB); have n3_ := gs_ hg (be_ HB); clear HB; have HB := n0_; have BK238 := n1_; have GW238 := n2_; have GE238 := n3_; clear n0_ n1_ n2_ n3_; clear hb hbox hg; have hcz6_0 : w5.cell? ⟨gb238, 0, none⟩ = some (.int .i64 a0_0) := (blk_cell BK238.out 0).trans rfl; have hcz6_1 : w5.cell? ⟨gb238, 1, none⟩ = some (.int .i64 a0_1) := (blk_cell BK238.out 1).trans rfl; have hcz6_2 : w5.cell? ⟨gb238, 2, none⟩ = some (.string a0_2) := (blk_cell BK238.out 2).trans rfl; have hfz6_0 := blk_frozen BK238.out 0; have hfz6_1 := blk_frozen BK238.out 1; have hfz6_2 := blk_frozen BK238.out 2) | ((with_reducible refine gate_callee (f := 55) rfl ?_); refine goesL_ (some 10) rfl rfl Tryd.func55 (by kernel_rfl) rfl #[.int .i64 a0_1, .int .i64 (-4611686018427387904), .int .i64 4611686018427387904] rfl ga_ ?_; (with_reducible refine (constableref01_In.calls a0_1 (-4611686018427387904) 4611686018427387904 true _ A3.out).mono ?_); rintro e w' ⟨rfl, ⟨nd, rfl⟩⟩; refine ⟨_, rfl, ?_⟩))
      go_ret
      exact ⟨by first | rfl | (simp [errW_none, errW_some] <;> rfl) | (simp [*, errW_none, errW_some] <;> rfl), by repeat (first | (with_reducible first | exact HB.out | apply below_alloc | apply pw_below_drewN | apply below_drew1 | refine below_set ?_ GE238.out) | exact HB.out)⟩
    · replace c4 := Bool.eq_false_iff.mpr c4
      subst c4
      have H1 : (some false) = some r := by rw [if_neg (show ¬ (false = true) by decide)] at H; exact H
      clear H
      have H := H1
      clear H1
      obtain rfl := Option.some.inj H
      go_enter Tryd.func31, Tryd.ntmps31
      go_wp2_with (first | ((with_reducible refine gate_dst (N := 1) rfl ?_); (try (refine gate_guard (by rfl) ?_; dsimp only)); refine box_event ?hg (N := 1) ?hd (cs := #[.int .i64 a0_0, .int .i64 a0_1, .string a0_2]) (t := 44) ?hr ?_; (case hd => rfl); (case hg => rfl); (case hr => first | (go_simp; done) | (go_simp; rfl)); intro gb238 hg w7 hbox hb; have n0_ := bs_ (be_ HB) hb; have n1_ := Aside0.mk (hbox); have n2_ := gs_ hg (be_ HB); have n3_ := gs_ hg (be_ HB); clear HB; have HB := n0_; have BK238 := n1_; have GW238 := n2_; have GE238 := n3_; clear n0_ n1_ n2_ n3_; clear hb hbox hg; have hcz8_0 : w7.cell? ⟨gb238, 0, none⟩ = some (.int .i64 a0_0) := (blk_cell BK238.out 0).trans rfl; have hcz8_1 : w7.cell? ⟨gb238, 1, none⟩ = some (.int .i64 a0_1) := (blk_cell BK238.out 1).trans rfl; have hcz8_2 : w7.cell? ⟨gb238, 2, none⟩ = some (.string a0_2) := (blk_cell BK238.out 2).trans rfl; have hfz8_0 := blk_frozen BK238.out 0; have hfz8_1 := blk_frozen BK238.out 1; have hfz8_2 := blk_frozen BK238.out 2) | ((with_reducible refine gate_callee (f := 55) rfl ?_); refine goesL_ (some 10) rfl rfl Tryd.func55 (by kernel_rfl) rfl #[.int .i64 a0_1, .int .i64 (-4611686018427387904), .int .i64 4611686018427387904] rfl ga_ ?_; (with_reducible refine (constableref01_In.calls a0_1 (-4611686018427387904) 4611686018427387904 false _ A3.out).mono ?_); rintro e w' ⟨rfl, ⟨nd, rfl⟩⟩; refine ⟨_, rfl, ?_⟩))
      go_ret
      exact ⟨by first | rfl | (simp [errW_none, errW_some] <;> rfl) | (simp [*, errW_none, errW_some] <;> rfl), by repeat (first | (with_reducible first | exact HB.out | apply below_alloc | apply pw_below_drewN | apply below_drew1 | refine below_set ?_ GE238.out) | exact HB.out)⟩
  · rw [if_neg c2] at H
    obtain ⟨c2b0, c2b1⟩ := neB_ c2
    by_cases c9 : a0_0 = 2
    · rw [if_pos c9] at H
      obtain ⟨c9b0, c9b1⟩ := eqB_ c9
      clear c9
      by_cases c10 : a0_1 = 0
      · rw [if_pos c10] at H
        obtain ⟨c10b0, c10b1⟩ := eqB_ c10
        clear c10
        replace H := Option.bind_eq_some_iff.mp H
        obtain ⟨t240, A110, H⟩ := H
        replace H : (some t240) = some r := H
        have A11 := Aside0.mk A110
        clear A110
        obtain rfl := Option.some.inj H
        go_enter Tryd.func31, Tryd.ntmps31
        go_wp2_with (first | ((with_reducible refine gate_dst (N := 1) rfl ?_); (try (refine gate_guard (by rfl) ?_; dsimp only)); refine box_event ?hg (N := 1) ?hd (cs := #[.int .i64 a0_0, .int .i64 a0_1, .string a0_2]) (t := 44) ?hr ?_; (case hd => rfl); (case hg => rfl); (case hr => first | (go_simp; done) | (go_simp; rfl)); intro gb238 hg w12 hbox hb; have n0_ := bs_ (be_ HB) hb; have n1_ := Aside0.mk (hbox); have n2_ := gs_ hg (be_ HB); have n3_ := gs_ hg (be_ HB); clear HB; have HB := n0_; have BK238 := n1_; have GW238 := n2_; have GE238 := n3_; clear n0_ n1_ n2_ n3_; clear hb hbox hg; have hcz13_0 : w12.cell? ⟨gb238, 0, none⟩ = some (.int .i64 a0_0) := (blk_cell BK238.out 0).trans rfl; have hcz13_1 : w12.cell? ⟨gb238, 1, none⟩ = some (.int .i64 a0_1) := (blk_cell BK238.out 1).trans rfl; have hcz13_2 : w12.cell? ⟨gb238, 2, none⟩ = some (.string a0_2) := (blk_cell BK238.out 2).trans rfl; have hfz13_0 := blk_frozen BK238.out 0; have hfz13_1 := blk_frozen BK238.out 1; have hfz13_2 := blk_frozen BK238.out 2) | (go_at_call 37; (with_reducible refine (constableref01_Word.calls k a0_2 false t240 _ A11.out).mono ?_); rintro e w' ⟨rfl, ⟨nd, rfl⟩⟩))
        go_ret
        exact ⟨by first | rfl | (simp [errW_none, errW_some] <;> rfl) | (simp [*, errW_none, errW_some] <;> rfl), by repeat (first | (with_reducible first | exact HB.out | apply below_alloc | apply pw_below_drewN | apply below_drew1 | refine below_set ?_ GE238.out) | exact HB.out)⟩
      · rw [if_neg c10] at H
        obtain ⟨c10b0, c10b1⟩ := neB_ c10
        obtain rfl := Option.some.inj H
        go_enter Tryd.func31, Tryd.ntmps31
        go_wp2_with (first | ((with_reducible refine gate_dst (N := 1) rfl ?_); (try (refine gate_guard (by rfl) ?_; dsimp only)); refine box_event ?hg (N := 1) ?hd (cs := #[.int .i64 a0_0, .int .i64 a0_1, .string a0_2]) (t := 44) ?hr ?_; (case hd => rfl); (case hg => rfl); (case hr => first | (go_simp; done) | (go_simp; rfl)); intro gb238 hg w14 hbox hb; have n0_ := bs_ (be_ HB) hb; have n1_ := Aside0.mk (hbox); have n2_ := gs_ hg (be_ HB); have n3_ := gs_ hg (be_ HB); clear HB; have HB := n0_; have BK238 := n1_; have GW238 := n2_; have GE238 := n3_; clear n0_ n1_ n2_ n3_; clear hb hbox hg; have hcz15_0 : w14.cell? ⟨gb238, 0, none⟩ = some (.int .i64 a0_0) := (blk_cell BK238.out 0).trans rfl; have hcz15_1 : w14.cell? ⟨gb238, 1, none⟩ = some (.int .i64 a0_1) := (blk_cell BK238.out 1).trans rfl; have hcz15_2 : w14.cell? ⟨gb238, 2, none⟩ = some (.string a0_2) := (blk_cell BK238.out 2).trans rfl; have hfz15_0 := blk_frozen BK238.out 0; have hfz15_1 := blk_frozen BK238.out 1; have hfz15_2 := blk_frozen BK238.out 2))
        go_ret
        exact ⟨by first | rfl | (simp [errW_none, errW_some] <;> rfl) | (simp [*, errW_none, errW_some] <;> rfl), by repeat (first | (with_reducible first | exact HB.out | apply below_alloc | apply pw_below_drewN | apply below_drew1 | refine below_set ?_ GE238.out) | exact HB.out)⟩
    · rw [if_neg c9] at H
      obtain ⟨c9b0, c9b1⟩ := neB_ c9
      by_cases c16 : a0_0 = 3
      · rw [if_pos c16] at H
        obtain ⟨c16b0, c16b1⟩ := eqB_ c16
        clear c16
        have HC17 := Aside0.mk H
        clear H
        go_enter Tryd.func31, Tryd.ntmps31
        go_upto_region 7 with (first | ((with_reducible refine gate_dst (N := 1) rfl ?_); (try (refine gate_guard (by rfl) ?_; dsimp only)); refine box_event ?hg (N := 1) ?hd (cs := #[.int .i64 a0_0, .int .i64 a0_1, .string a0_2]) (t := 44) ?hr ?_; (case hd => rfl); (case hg => rfl); (case hr => first | (go_simp; done) | (go_simp; rfl)); intro gb238 hg w18 hbox hb; have n0_ := bs_ (be_ HB) hb; have n1_ := Aside0.mk (hbox); have n2_ := gs_ hg (be_ HB); have n3_ := gs_ hg (be_ HB); clear HB; have HB := n0_; have BK238 := n1_; have GW238 := n2_; have GE238 := n3_; clear n0_ n1_ n2_ n3_; clear hb hbox hg; have hcz19_0 : w18.cell? ⟨gb238, 0, none⟩ = some (.int .i64 a0_0) := (blk_cell BK238.out 0).trans rfl; have hcz19_1 : w18.cell? ⟨gb238, 1, none⟩ = some (.int .i64 a0_1) := (blk_cell BK238.out 1).trans rfl; have hcz19_2 : w18.cell? ⟨gb238, 2, none⟩ = some (.string a0_2) := (blk_cell BK238.out 2).trans rfl; have hfz19_0 := blk_frozen BK238.out 0; have hfz19_1 := blk_frozen BK238.out 1; have hfz19_2 := blk_frozen BK238.out 2))
        (try simp only [Act.put, List.setIfInBounds_toArray, List.set_cons_zero, List.set_cons_succ])
        go_cut [37] (fun v37 wc => ∃ (kq : Nat) (x37_16 : Bool), v37 = .bool x37_16 ∧ Aside0 (constableref01_Value.j0 kq x37_16 a0_0 a0_1 a0_2 = some r) ∧ Aside0 (kq ≤ k) ∧ Aside0 (wc.heap[gb238]? = some (.cells #[.int .i64 a0_0, .int .i64 a0_1, .string a0_2] 44 (0, 0))) ∧ Aside0 (Below w.heap.size w wc))
        case first =>
          have H := HC17.out
          clear HC17
          by_cases c20 : a0_1 = 0
          · rw [if_pos c20] at H
            obtain ⟨c20b0, c20b1⟩ := eqB_ c20
            clear c20
            (first | rw [c20b0] | (simp only [i64_w, i32_w]; rw [c20b0]) | skip)
            have H' := Aside0.mk H
            clear H
            have hcz21_0 : w18.cell? ⟨gb238, 0, none⟩ = some (.int .i64 a0_0) := (blk_cell BK238.out 0).trans rfl
            have hcz21_1 : w18.cell? ⟨gb238, 1, none⟩ = some (.int .i64 a0_1) := (blk_cell BK238.out 1).trans rfl
            have hcz21_2 : w18.cell? ⟨gb238, 2, none⟩ = some (.string a0_2) := (blk_cell BK238.out 2).trans rfl
            have hfz21_0 := blk_frozen BK238.out 0
            have hfz21_1 := blk_frozen BK238.out 1
            have hfz21_2 := blk_frozen BK238.out 2
            go_wp2
            go_meet
            case rel => exact ⟨_, (decide ((a0_2.size : Int) > 60)), ra_, H', ⟨by first | omega | exact Nat.le_refl _⟩, ⟨by (with_reducible repeat (first | refine blk_drewN ?_ _ | refine blk_drew ?_ | refine blk_alloc ?_ _)); exact BK238.out⟩, ⟨by repeat (first | (with_reducible first | exact HB.out | apply below_alloc | apply pw_below_drewN | apply below_drew1 | refine below_set ?_ GE238.out) | exact HB.out)⟩⟩
          · rw [if_neg c20] at H
            obtain ⟨c20b0, c20b1⟩ := neB_ c20
            (first | rw [c20b0] | (simp only [i64_w, i32_w]; rw [c20b0]) | skip)
            have H' := Aside0.mk H
            clear H
            have hcz22_0 : w18.cell? ⟨gb238, 0, none⟩ = some (.int .i64 a0_0) := (blk_cell BK238.out 0).trans rfl
            have hcz22_1 : w18.cell? ⟨gb238, 1, none⟩ = some (.int .i64 a0_1) := (blk_cell BK238.out 1).trans rfl
            have hcz22_2 : w18.cell? ⟨gb238, 2, none⟩ = some (.string a0_2) := (blk_cell BK238.out 2).trans rfl
            have hfz22_0 := blk_frozen BK238.out 0
            have hfz22_1 := blk_frozen BK238.out 1
            have hfz22_2 := blk_frozen BK238.out 2
            go_wp2
            go_meet
            case rel => exact ⟨_, (true), ra_, H', ⟨by first | omega | exact Nat.le_refl _⟩, ⟨by (with_reducible repeat (first | refine blk_drewN ?_ _ | refine blk_drew ?_ | refine blk_alloc ?_ _)); exact BK238.out⟩, ⟨by repeat (first | (with_reducible first | exact HB.out | apply below_alloc | apply pw_below_drewN | apply below_drew1 | refine below_set ?_ GE238.out) | exact HB.out)⟩⟩
        case rest =>
          clear HC17
          try clear c1
          try clear c2
          try clear c2b0
          try clear c2b1
          try clear p2
          try clear c3
          try clear c4
          try clear c5
          try clear c9
          try clear c9b0
          try clear c9b1
          try clear c10
          try clear c10b0
          try clear c10b1
          try clear c16
          try clear c16b0
          try clear c16b1
          try clear c20
          try clear c20b0
          try clear c20b1
          try clear hcz13_0
          try clear hcz13_1
          try clear hcz13_2
          try clear hcz15_0
          try clear hcz15_1
          try clear hcz15_2
          try clear hcz19_0
          try clear hcz19_1
          try clear hcz19_2
          try clear hcz21_0
          try clear hcz21_1
          try clear hcz21_2
          try clear hcz22_0
          try clear hcz22_1
          try clear hcz22_2
          try clear hcz6_0
          try clear hcz6_1
          try clear hcz6_2
          try clear hcz8_0
          try clear hcz8_1
          try clear hcz8_2
          try clear hfz13_0
          try clear hfz13_1
          try clear hfz13_2
          try clear hfz15_0
          try clear hfz15_1
          try clear hfz15_2
          try clear hfz19_0
          try clear hfz19_1
          try clear hfz19_2
          try clear hfz21_0
          try clear hfz21_1
          try clear hfz21_2
          try clear hfz22_0
          try clear hfz22_1
          try clear hfz22_2
          try clear hfz6_0
          try clear hfz6_1
          try clear hfz6_2
          try clear hfz8_0
          try clear hfz8_1
          try clear hfz8_2
          obtain ⟨kq, x37_16, rfl, HA, HJ16, BK238, HB⟩ := hcut
          cases kq with
          | zero => exact absurd HA.out (by simp [constableref01_Value.j0])
          | succ kj16 =>
            have H := HA.out
            clear HA
            simp only [constableref01_Value.j0] at H
            by_cases c23 : x37_16 = true
            · subst c23
              have H1 : (some false) = some r := by rw [if_pos rfl] at H; exact H
              clear H
              have H := H1
              clear H1
              obtain rfl := Option.some.inj H
              go_wp2
              go_ret
              exact ⟨by first | rfl | (simp [errW_none, errW_some] <;> rfl) | (simp [*, errW_none, errW_some] <;> rfl), by repeat (first | (with_reducible first | exact HB.out | apply below_alloc | apply pw_below_drewN | apply below_drew1 | refine below_set ?_ GE238.out) | exact HB.out)⟩
            · replace c23 := Bool.eq_false_iff.mpr c23
              subst c23
              have H1 : (constableref01_Value.l0 kj16 0 a0_0 a0_1 a0_2) = some r := by rw [if_neg (show ¬ (false = true) by decide)] at H; exact H
              clear H
              have H := H1
              clear H1
              have H' := Aside0.mk H
              clear H
              go_wp2
              go_loopg [3] kj16 (fun kq v3 w' => ∃ (x3_2 : Int), v3 = .int .i64 x3_2 ∧ Aside0 (constableref01_Value.l0 kq x3_2 a0_0 a0_1 a0_2 = some r) ∧ Aside0 (kq ≤ kj16) ∧ Aside0 (w'.heap[gb238]? = some (.cells #[.int .i64 a0_0, .int .i64 a0_1, .string a0_2] 44 (0, 0))) ∧ Aside0 (Below w.heap.size w w'))
              case atStart => exact ⟨(0), ra_, H', ⟨Nat.le_refl _⟩, ⟨by (with_reducible repeat (first | refine blk_drewN ?_ _ | refine blk_drew ?_ | refine blk_alloc ?_ _)); exact BK238.out⟩, ⟨by repeat (first | (with_reducible first | exact HB.out | apply below_alloc | apply pw_below_drewN | apply below_drew1 | refine below_set ?_ GE238.out) | exact HB.out)⟩⟩
              case round =>
                clear H'
                try clear c1
                try clear c2
                try clear c2b0
                try clear c2b1
                try clear p2
                try clear c3
                try clear c4
                try clear c5
                try clear c9
                try clear c9b0
                try clear c9b1
                try clear c10
                try clear c10b0
                try clear c10b1
                try clear c16
                try clear c16b0
                try clear c16b1
                try clear c20
                try clear c20b0
                try clear c20b1
                try clear c23
                try clear hcz13_0
                try clear hcz13_1
                try clear hcz13_2
                try clear hcz15_0
                try clear hcz15_1
                try clear hcz15_2
                try clear hcz19_0
                try clear hcz19_1
                try clear hcz19_2
                try clear hcz21_0
                try clear hcz21_1
                try clear hcz21_2
                try clear hcz22_0
                try clear hcz22_1
                try clear hcz22_2
                try clear hcz6_0
                try clear hcz6_1
                try clear hcz6_2
                try clear hcz8_0
                try clear hcz8_1
                try clear hcz8_2
                try clear hfz13_0
                try clear hfz13_1
                try clear hfz13_2
                try clear hfz15_0
                try clear hfz15_1
                try clear hfz15_2
                try clear hfz19_0
                try clear hfz19_1
                try clear hfz19_2
                try clear hfz21_0
                try clear hfz21_1
                try clear hfz21_2
                try clear hfz22_0
                try clear hfz22_1
                try clear hfz22_2
                try clear hfz6_0
                try clear hfz6_1
                try clear hfz6_2
                try clear hfz8_0
                try clear hfz8_1
                try clear hfz8_2
                try clear p2
                obtain ⟨x3_2, rfl, HA, HK2, BK238, HB⟩ := hrel
                cases gk with
                | zero => exact absurd HA.out (by simp [constableref01_Value.l0])
                | succ k2 =>
                  have H := HA.out
                  clear HA
                  simp only [constableref01_Value.l0] at H
                  by_cases c24 : x3_2 < (a0_2.size : Int)
                  · rw [if_pos c24] at H
                    have c24b0 : decide (x3_2 < (a0_2.size : Int)) = true := decide_eq_true c24
                    clear c24
                    by_cases c25 : 0 ≤ x3_2
                    · rw [if_pos c25] at H
                      have c25b0 : decide (0 ≤ x3_2) = true := decide_eq_true c25
                      clear c25
                      replace H := Option.bind_eq_some_iff.mp H
                      obtain ⟨t241, A270, H⟩ := H
                      replace H : (if t241 = true then (constableref01_Value.l0 k2 (wrap64 (x3_2 + 1)) a0_0 a0_1 a0_2) else (some false)) = some r := H
                      have A27 := Aside0.mk A270
                      clear A270
                      by_cases c28 : t241 = true
                      · subst c28
                        have H1 : (constableref01_Value.l0 k2 (wrap64 (x3_2 + 1)) a0_0 a0_1 a0_2) = some r := by rw [if_pos rfl] at H; exact H
                        clear H
                        have H := H1
                        clear H1
                        have H' := Aside0.mk H
                        clear H
                        have hcz29_0 : wr.cell? ⟨gb238, 0, none⟩ = some (.int .i64 a0_0) := (blk_cell BK238.out 0).trans rfl
                        have hcz29_1 : wr.cell? ⟨gb238, 1, none⟩ = some (.int .i64 a0_1) := (blk_cell BK238.out 1).trans rfl
                        have hcz29_2 : wr.cell? ⟨gb238, 2, none⟩ = some (.string a0_2) := (blk_cell BK238.out 2).trans rfl
                        have hfz29_0 := blk_frozen BK238.out 0
                        have hfz29_1 := blk_frozen BK238.out 1
                        have hfz29_2 := blk_frozen BK238.out 2
                        have p26 : 0 ≤ (x3_2 : Int) := dt_
                        have q26 : x3_2 < (a0_2.size : Int) := dt_
                        have hx26 := bt_at a0_2 x3_2
                        replace p26 := eq_true p26
                        replace q26 := eq_true q26
                        go_wp2_with (first | ((with_reducible refine gate_callee (f := 55) rfl ?_); refine goesL_ (some 50) rfl rfl Tryd.func55 (by kernel_rfl) rfl #[.int .i64 (wrap64 (bt a0_2 x3_2)), .int .i64 32, .int .i64 126] rfl ga_ ?_; (with_reducible refine (constableref01_In.calls (wrap64 (bt a0_2 x3_2)) 32 126 true _ A27.out).mono ?_); rintro e w' ⟨rfl, ⟨nd, rfl⟩⟩; refine ⟨_, rfl, ?_⟩))
                        go_roundg k2
                        case measure => have := HJ16.out; have := HK2.out; omega
                        case rel => exact ⟨(wrap64 (x3_2 + 1)), ra_, H', ⟨by have := HJ16.out; have := HK2.out; omega⟩, ⟨by (with_reducible repeat (first | refine blk_drewN ?_ _ | refine blk_drew ?_ | refine blk_alloc ?_ _)); exact BK238.out⟩, ⟨by repeat (first | (with_reducible first | exact HB.out | apply below_alloc | apply pw_below_drewN | apply below_drew1 | refine below_set ?_ GE238.out) | exact HB.out)⟩⟩
                      · replace c28 := Bool.eq_false_iff.mpr c28
                        subst c28
                        have H1 : (some false) = some r := by rw [if_neg (show ¬ (false = true) by decide)] at H; exact H
                        clear H
                        have H := H1
                        clear H1
                        obtain rfl := Option.some.inj H
                        have hcz30_0 : wr.cell? ⟨gb238, 0, none⟩ = some (.int .i64 a0_0) := (blk_cell BK238.out 0).trans rfl
                        have hcz30_1 : wr.cell? ⟨gb238, 1, none⟩ = some (.int .i64 a0_1) := (blk_cell BK238.out 1).trans rfl
                        have hcz30_2 : wr.cell? ⟨gb238, 2, none⟩ = some (.string a0_2) := (blk_cell BK238.out 2).trans rfl
                        have hfz30_0 := blk_frozen BK238.out 0
                        have hfz30_1 := blk_frozen BK238.out 1
                        have hfz30_2 := blk_frozen BK238.out 2
                        have p26 : 0 ≤ (x3_2 : Int) := dt_
                        have q26 : x3_2 < (a0_2.size : Int) := dt_
                        have hx26 := bt_at a0_2 x3_2
                        replace p26 := eq_true p26
                        replace q26 := eq_true q26
                        go_wp2_with (first | ((with_reducible refine gate_callee (f := 55) rfl ?_); refine goesL_ (some 50) rfl rfl Tryd.func55 (by kernel_rfl) rfl #[.int .i64 (wrap64 (bt a0_2 x3_2)), .int .i64 32, .int .i64 126] rfl ga_ ?_; (with_reducible refine (constableref01_In.calls (wrap64 (bt a0_2 x3_2)) 32 126 false _ A27.out).mono ?_); rintro e w' ⟨rfl, ⟨nd, rfl⟩⟩; refine ⟨_, rfl, ?_⟩))
                        go_ret
                        exact ⟨by first | rfl | (simp [errW_none, errW_some] <;> rfl) | (simp [*, errW_none, errW_some] <;> rfl), by repeat (first | (with_reducible first | exact HB.out | apply below_alloc | apply pw_below_drewN | apply below_drew1 | refine below_set ?_ GE238.out) | exact HB.out)⟩
                    · rw [if_neg c25] at H
                      exact absurd H (by simp)
                  · rw [if_neg c24] at H
                    have c24b0 : decide (x3_2 < (a0_2.size : Int)) = false := decide_eq_false c24
                    clear c24
                    obtain rfl := Option.some.inj H
                    have hcz31_0 : wr.cell? ⟨gb238, 0, none⟩ = some (.int .i64 a0_0) := (blk_cell BK238.out 0).trans rfl
                    have hcz31_1 : wr.cell? ⟨gb238, 1, none⟩ = some (.int .i64 a0_1) := (blk_cell BK238.out 1).trans rfl
                    have hcz31_2 : wr.cell? ⟨gb238, 2, none⟩ = some (.string a0_2) := (blk_cell BK238.out 2).trans rfl
                    have hfz31_0 := blk_frozen BK238.out 0
                    have hfz31_1 := blk_frozen BK238.out 1
                    have hfz31_2 := blk_frozen BK238.out 2
                    go_wp2
                    go_ret
                    exact ⟨by first | rfl | (simp [errW_none, errW_some] <;> rfl) | (simp [*, errW_none, errW_some] <;> rfl), by repeat (first | (with_reducible first | exact HB.out | apply below_alloc | apply pw_below_drewN | apply below_drew1 | refine below_set ?_ GE238.out) | exact HB.out)⟩
      · rw [if_neg c16] at H
        obtain ⟨c16b0, c16b1⟩ := neB_ c16
        obtain rfl := Option.some.inj H
        go_enter Tryd.func31, Tryd.ntmps31
        go_wp2_with (first | ((with_reducible refine gate_dst (N := 1) rfl ?_); (try (refine gate_guard (by rfl) ?_; dsimp only)); refine box_event ?hg (N := 1) ?hd (cs := #[.int .i64 a0_0, .int .i64 a0_1, .string a0_2]) (t := 44) ?hr ?_; (case hd => rfl); (case hg => rfl); (case hr => first | (go_simp; done) | (go_simp; rfl)); intro gb238 hg w32 hbox hb; have n0_ := bs_ (be_ HB) hb; have n1_ := Aside0.mk (hbox); have n2_ := gs_ hg (be_ HB); have n3_ := gs_ hg (be_ HB); clear HB; have HB := n0_; have BK238 := n1_; have GW238 := n2_; have GE238 := n3_; clear n0_ n1_ n2_ n3_; clear hb hbox hg; have hcz33_0 : w32.cell? ⟨gb238, 0, none⟩ = some (.int .i64 a0_0) := (blk_cell BK238.out 0).trans rfl; have hcz33_1 : w32.cell? ⟨gb238, 1, none⟩ = some (.int .i64 a0_1) := (blk_cell BK238.out 1).trans rfl; have hcz33_2 : w32.cell? ⟨gb238, 2, none⟩ = some (.string a0_2) := (blk_cell BK238.out 2).trans rfl; have hfz33_0 := blk_frozen BK238.out 0; have hfz33_1 := blk_frozen BK238.out 1; have hfz33_2 := blk_frozen BK238.out 2))
        go_ret
        exact ⟨by first | rfl | (simp [errW_none, errW_some] <;> rfl) | (simp [*, errW_none, errW_some] <;> rfl), by repeat (first | (with_reducible first | exact HB.out | apply below_alloc | apply pw_below_drewN | apply below_drew1 | refine below_set ?_ GE238.out) | exact HB.out)⟩
end Go.Proofs.YtaopajmpifenoaaDoor.P
end
section
namespace Go.Proofs.YtaopajmpifenoaaDoor.P
open Go.RowKit Go.Proofs.YtaopajmpifenoaaDoorW.PrintWords Go.Proofs.YtaopajmpifenoaaDoorW.PrintLast Go.Proofs.YtaopajmpifenoaaDoorW.PrintMore
theorem ref_In_eq (a b c : Int) : constableref01_In.f a b c = some (decide (b ≤ a ∧ a ≤ c)) := by
  unfold constableref01_In.f
  split
  · congr 1; rw [decide_eq_decide]; omega
  · congr 1; symm; rw [decide_eq_false_iff_not]; omega
theorem abs_mul_abs (a b : Int) : (if a < -a then -a else a) * (if b < -b then -b else b) = if a * b < 0 then -(a * b) else a * b := by
  by_cases ha : a < -a <;> by_cases hb : b < -b <;> simp only [ha, hb, if_true, if_false]
  · have : 0 < a * b := Int.mul_pos_of_neg_of_neg (by omega) (by omega)
    rw [if_neg (by omega)]; exact Int.neg_mul_neg a b
  · have : a * b ≤ 0 := Int.mul_nonpos_of_nonpos_of_nonneg (by omega) (by omega)
    rw [Int.neg_mul]; split <;> omega
  · have : a * b ≤ 0 := Int.mul_nonpos_of_nonneg_of_nonpos (by omega) (by omega)
    rw [Int.mul_neg]; split <;> omega
  · have : 0 ≤ a * b := Int.mul_nonneg (by omega) (by omega)
    rw [if_neg (by omega)]
theorem ref_over {a b : Int} (ha : InB a) (hb : InB b) (hb0 : b ≠ 0) :
    (mx a (wrap64 (-a)) > wrap64 (Int.tdiv 4611686018427387904 (mx b (wrap64 (-b))))) ↔ ¬ InB (a * b) := by
  rw [InB_iff] at ha hb
  have e1 : wrap64 (-a) = -a := by unfold wrap64; omega
  have e2 : wrap64 (-b) = -b := by unfold wrap64; omega
  rw [e1, e2]
  have m1 : mx a (-a) = if a < -a then -a else a := rfl
  have m2 : mx b (-b) = if b < -b then -b else b := rfl
  have hm := abs_mul_abs a b
  rw [← m1, ← m2] at hm
  have p1 : 0 ≤ mx a (-a) := by rw [m1]; split <;> omega
  have p2 : 0 < mx b (-b) := by rw [m2]; split <;> omega
  generalize mx a (-a) = x at *
  generalize mx b (-b) = y at *
  rw [Int.tdiv_eq_ediv_of_nonneg (by decide)]
  have h1 : 4611686018427387904 / y ≤ 4611686018427387904 := Int.ediv_le_self _ (by decide)
  have h2 : 0 ≤ 4611686018427387904 / y := Int.ediv_nonneg (by decide) (by omega)
  have e3 : wrap64 (4611686018427387904 / y) = 4611686018427387904 / y := by unfold wrap64; omega
  rw [e3, InB_iff]
  have h3 : 4611686018427387904 / y < x ↔ 4611686018427387904 < x * y := Int.ediv_lt_iff_lt_mul p2
  rw [gt_iff_lt, h3, hm]
  split <;> omega
end Go.Proofs.YtaopajmpifenoaaDoor.P
end
section
namespace Go.Proofs.YtaopajmpifenoaaDoor.P
open Go.RowKit Go.Proofs.YtaopajmpifenoaaDoorW.PrintWords Go.Proofs.YtaopajmpifenoaaDoorW.PrintLast Go.Proofs.YtaopajmpifenoaaDoorW.PrintMore
theorem ref_Lower_eq (c : Int) : constableref01_Lower.f c = some (smallI c) := by
  unfold constableref01_Lower.f smallI
  split
  · congr 1; rw [decide_eq_decide]; omega
  · congr 1; symm; rw [decide_eq_false_iff_not]; omega
theorem ref_Upper_eq (c : Int) : constableref01_Upper.f c = some (largeI c) := by
  unfold constableref01_Upper.f largeI
  split
  · congr 1; rw [decide_eq_decide]; omega
  · congr 1; symm; rw [decide_eq_false_iff_not]; omega
theorem ref_Digit_eq (c : Int) : constableref01_Digit.f c = some (digitI c) := by
  unfold constableref01_Digit.f digitI
  split
  · congr 1; rw [decide_eq_decide]; omega
  · congr 1; symm; rw [decide_eq_false_iff_not]; omega
theorem ref_inner_eq (c : Int) : constableref01_inner.f c = some (innerI c) := by
  unfold constableref01_inner.f innerI
  simp only [ref_Lower_eq, ref_Upper_eq, ref_Digit_eq, Option.bind_some]
  cases smallI c <;> cases largeI c <;> cases digitI c <;> simp
theorem ref_Word_l0 (s : ByteArray) (hs : s.size ≤ maxLen) : ∀ i : Nat, i ≤ s.size → Ev (fun k => constableref01_Word.l0 k s i) (((bytesOf s).drop i).all innerI) := by
  unfold maxLen at hs
  refine back_ind s.size (fun k i => constableref01_Word.l0 k s i) _ ?_ ?_
  · refine evShift ?_
    simp only [constableref01_Word.l0]
    refine evNeg (by omega) (evSome (by rw [drop_end]; rfl))
  · intro i hi ih
    refine evShift ?_
    simp only [constableref01_Word.l0, ref_inner_eq, Option.bind_some]
    refine evPos (by omega) (evPos (by omega) ?_)
    rw [all_drop hi, wrap_succ hi (by omega)]
    by_cases h1 : innerI (bt s i) = true
    · rw [h1]; simpa using ih
    · simp [h1]; exact evSome rfl
theorem not_both (c : Int) : largeI c = true → smallI c = false := by
  unfold largeI smallI
  intro h
  rw [decide_eq_true_eq] at h
  exact decide_eq_false (by omega)
theorem ref_Word_ev (s : ByteArray) (large : Bool) (hs : s.size ≤ maxLen) : Ev (fun k => constableref01_Word.f k s large) (wordS large s) := by
  have hl := ref_Word_l0 s hs 0 (by omega)
  simp only [List.drop_zero, Int.natCast_zero] at hl
  have hj : Ev (fun k => constableref01_Word.j0 k s true) false := by
    refine evShift ?_
    simp only [constableref01_Word.j0, if_true]
    exact evSome rfl
  have hj2 : Ev (fun k => constableref01_Word.j0 k s false) ((bytesOf s).all innerI) := by
    refine evShift ?_
    simp only [constableref01_Word.j0, Bool.false_eq_true, if_false]
    exact hl
  unfold constableref01_Word.f wordS
  simp only [ref_In_eq, ref_Upper_eq, ref_Lower_eq, Option.bind_some]
  by_cases h1 : 1 ≤ s.size ∧ s.size ≤ 24
  · have hd : decide (1 ≤ s.size ∧ s.size ≤ 24) = true := decide_eq_true h1
    have hd' : decide ((1 : Int) ≤ s.size ∧ (s.size : Int) ≤ 24) = true := decide_eq_true (by omega)
    rw [hd, hd']
    refine evPos rfl (evPos (by omega) ?_)
    have hb := not_both (bt s 0)
    cases large <;> cases h2 : largeI (bt s 0) <;> simp [h2] at hb ⊢
    · cases h3 : smallI (bt s 0)
      · simp; exact hj
      · simp; exact hj2
    · rw [hb]; simp; exact hj
    · exact hj
    · exact hj2
  · have hd : decide (1 ≤ s.size ∧ s.size ≤ 24) = false := decide_eq_false h1
    have hd' : decide ((1 : Int) ≤ s.size ∧ (s.size : Int) ≤ 24) = false := decide_eq_false (by omega)
    rw [hd, hd']
    exact evNeg (by decide) hj
theorem ref_Value_l0 (a b : Int) (s : ByteArray) (hs : s.size ≤ maxLen) : ∀ i : Nat, i ≤ s.size → Ev (fun k => constableref01_Value.l0 k i a b s) (((bytesOf s).drop i).all plainI) := by
  unfold maxLen at hs
  refine back_ind s.size (fun k i => constableref01_Value.l0 k i a b s) _ ?_ ?_
  · refine evShift ?_
    simp only [constableref01_Value.l0]
    refine evNeg (by omega) (evSome (by rw [drop_end]; rfl))
  · intro i hi ih
    refine evShift ?_
    simp only [constableref01_Value.l0, ref_In_eq, Option.bind_some]
    refine evPos (by omega) (evPos (by omega) ?_)
    rw [all_drop hi, wrap_succ hi (by omega)]
    have hr := bt_range s i
    have hw : wrap64 (bt s i) = bt s i := by unfold wrap64; omega
    rw [hw]
    have e : decide (32 ≤ bt s i ∧ bt s i ≤ 126) = plainI (bt s i) := rfl
    rw [e]
    by_cases h1 : plainI (bt s i) = true
    · rw [h1]; simpa using ih
    · simp [h1]; exact evSome rfl
theorem ref_Value_ev (kind n : Int) (s : ByteArray) (hs : s.size ≤ maxLen) : Ev (fun k => constableref01_Value.f k kind n s) (valS kind n s) := by
  unfold constableref01_Value.f valS
  by_cases h1 : kind = 1
  · refine evPos h1 ?_
    rw [if_pos h1]
    simp only [ref_In_eq, Option.bind_some]
    have i1 : decide (-4611686018427387904 ≤ n ∧ n ≤ 4611686018427387904) = decide (InB n) := rfl
    rw [i1]
    by_cases h2 : InB n
    · rw [decide_eq_true h2]
      refine evPos rfl (evSome ?_)
      rw [Bool.eq_iff_iff]
      simp [← size_zero]
    · rw [decide_eq_false h2]
      exact evNeg (by decide) (evSome rfl)
  · refine evNeg h1 ?_
    rw [if_neg h1]
    by_cases h2 : kind = 2
    · refine evPos h2 ?_
      rw [if_pos h2]
      by_cases h3 : n = 0
      · refine evPos h3 (Ev.bind (ref_Word_ev s false hs) (evSome ?_))
        rw [decide_eq_true h3]; simp
      · refine evNeg h3 (evSome ?_)
        rw [decide_eq_false h3]; rfl
    · refine evNeg h2 ?_
      rw [if_neg h2]
      by_cases h3 : kind = 3
      · refine evPos h3 ?_
        rw [if_pos h3]
        by_cases h4 : n = 0
        · refine evPos h4 (evShift ?_)
          rw [decide_eq_true h4]
          simp only [constableref01_Value.j0]
          by_cases h5 : (s.size : Int) > 60
          · refine evPos (decide_eq_true h5) (evSome ?_)
            have : decide (s.size ≤ 60) = false := decide_eq_false (by omega)
            rw [this]; simp
          · refine evNeg (by rw [decide_eq_false h5]; decide) ?_
            have : decide (s.size ≤ 60) = true := decide_eq_true (by omega)
            rw [this]
            have := ref_Value_l0 kind n s hs 0 (by omega)
            simpa using this
        · refine evNeg h4 (evShift ?_)
          simp only [constableref01_Value.j0, if_true]
          refine evSome ?_
          rw [decide_eq_false h4]; rfl
      · refine evNeg h3 (evSome ?_)
        rw [if_neg h3]
end Go.Proofs.YtaopajmpifenoaaDoor.P
end
section
namespace Go.Proofs.YtaopajmpifenoaaDoor.P
open Go.RowKit Go.Proofs.YtaopajmpifenoaaDoorW.PrintWords Go.Proofs.YtaopajmpifenoaaDoorW.PrintLast Go.Proofs.YtaopajmpifenoaaDoorW.PrintMore
theorem cb_zero : ∀ a b : List UInt8, Lib.compareBytes a b = 0 ↔ a = b
  | [], [] => by simp [Lib.compareBytes]
  | [], _ :: _ => by simp [Lib.compareBytes]
  | _ :: _, [] => by simp [Lib.compareBytes]
  | x :: a, y :: b => by
    have ih := cb_zero a b
    simp only [Lib.compareBytes, List.cons.injEq]
    by_cases h : x < y
    · rw [if_pos h]
      refine ⟨fun h => absurd h (by decide), fun e => ?_⟩
      rw [e.1] at h; exact absurd h (UInt8.lt_irrefl y)
    · rw [if_neg h]
      by_cases h2 : y < x
      · rw [if_pos h2]
        refine ⟨fun h => absurd h (by decide), fun e => ?_⟩
        rw [e.1] at h2; exact absurd h2 (UInt8.lt_irrefl y)
      · rw [if_neg h2, ih]
        have : x = y := by
          rw [UInt8.lt_iff_toNat_lt] at h h2
          exact UInt8.toNat_inj.1 (by omega)
        exact ⟨fun e => ⟨this, e⟩, fun e => e.2⟩
theorem cb_less_iff : ∀ a b : List UInt8, Op.bytesLess a b = true ↔ Lib.compareBytes a b < 0
  | [], [] => by simp [Op.bytesLess, Lib.compareBytes]
  | [], _ :: _ => by simp [Op.bytesLess, Lib.compareBytes]
  | _ :: _, [] => by simp [Op.bytesLess, Lib.compareBytes]
  | x :: a, y :: b => by
    have ih := cb_less_iff a b
    simp only [Op.bytesLess, Lib.compareBytes]
    by_cases h : x < y
    · rw [if_pos h, decide_eq_true h]; simp
    · rw [if_neg h, decide_eq_false h, Bool.false_or]
      by_cases h2 : y < x
      · rw [if_pos h2]
        have e : (x == y) = false := beq_eq_false_iff_ne.mpr (fun e => by rw [e] at h2; exact absurd h2 (UInt8.lt_irrefl y))
        rw [e]; simp
      · rw [if_neg h2]
        have : x = y := by
          rw [UInt8.lt_iff_toNat_lt] at h h2
          exact UInt8.toNat_inj.1 (by omega)
        subst this
        rw [beq_self_eq_true, Bool.true_and]; exact ih
theorem cb_less (a b : List UInt8) : Op.bytesLess a b = decide (Lib.compareBytes a b < 0) := by
  rw [Bool.eq_iff_iff, cb_less_iff, decide_eq_true_eq]
theorem cb_swap : ∀ a b : List UInt8, Lib.compareBytes b a = - Lib.compareBytes a b
  | [], [] => rfl
  | [], _ :: _ => rfl
  | _ :: _, [] => rfl
  | x :: a, y :: b => by
    have ih := cb_swap a b
    simp only [Lib.compareBytes]
    by_cases h : x < y
    · have h2 : ¬ y < x := by rw [UInt8.lt_iff_toNat_lt] at h ⊢; omega
      rw [if_neg h2, if_pos h, if_pos h]; rfl
    · by_cases h2 : y < x
      · rw [if_pos h2, if_neg h, if_pos h2]
      · rw [if_neg h2, if_neg h, if_neg h, if_neg h2]; exact ih
def cmpI (a b : Int) : Int := if a < b then -1 else if a > b then 1 else 0
def cmpB (s t : ByteArray) : Int := Lib.compareBytes s.data.toList t.data.toList
def cmpV (v w : S44) : Int := if cmpI v.f0 w.f0 = 0 then (if cmpI v.f1 w.f1 = 0 then cmpB v.f2 w.f2 else cmpI v.f1 w.f1) else cmpI v.f0 w.f0
theorem cmpI_zero (a b : Int) : cmpI a b = 0 ↔ a = b := by unfold cmpI; split <;> (try split) <;> omega
theorem cmpI_swap (a b : Int) : cmpI b a = - cmpI a b := by unfold cmpI; split <;> (try split) <;> (try split) <;> (try split) <;> omega
theorem cmpB_zero (s t : ByteArray) : cmpB s t = 0 ↔ s = t := by
  unfold cmpB
  rw [cb_zero]
  exact ⟨fun h => ByteArray.ext (Array.toList_inj.1 h), fun h => by rw [h]⟩
theorem cmpV_zero (v w : S44) : cmpV v w = 0 ↔ v = w := by
  obtain ⟨a, b, c⟩ := v
  obtain ⟨x, y, z⟩ := w
  have h1 := cmpI_zero a x
  have h2 := cmpI_zero b y
  have h3 := cmpB_zero c z
  unfold cmpV
  simp only [S44.mk.injEq]
  by_cases e1 : cmpI a x = 0
  · rw [if_pos e1]
    by_cases e2 : cmpI b y = 0
    · rw [if_pos e2, h3]; exact ⟨fun h => ⟨h1.1 e1, h2.1 e2, h⟩, fun h => h.2.2⟩
    · rw [if_neg e2]; exact ⟨fun h => absurd h e2, fun h => absurd (h2.2 h.2.1) e2⟩
  · rw [if_neg e1]; exact ⟨fun h => absurd h e1, fun h => absurd (h1.2 h.1) e1⟩
theorem cmpV_swap (v w : S44) : cmpV w v = - cmpV v w := by
  unfold cmpV cmpB
  rw [cmpI_swap v.f0 w.f0, cmpI_swap v.f1 w.f1, cb_swap v.f2.data.toList w.f2.data.toList]
  split <;> split <;> (try split) <;> (try split) <;> omega
theorem cmp_Compare_eq (a b : Int) : cmp_Compare_int.f a b = some (cmpI a b) := by
  simp only [cmp_Compare_int.f, cmp_isNaN_int.f, Option.bind_some, bne_self_eq_false, Bool.false_eq_true, if_false, cmpI]
  split
  · rfl
  · split <;> rfl
theorem cmp_Or_ev (x y z : Int) : Ev (fun k => cmp_Or_int.f k [x, y, z]) (if x = 0 then (if y = 0 then z else y) else x) := by
  have l3 : (([x, y, z] : List Int).length : Int) = 3 := rfl
  have r0 : rd [x, y, z] 0 = x := rfl
  have r1 : rd [x, y, z] 1 = y := rfl
  have r2 : rd [x, y, z] 2 = z := rfl
  have w0 : wrap64 (0 + 1) = 1 := by unfold wrap64; omega
  have w1 : wrap64 (1 + 1) = 2 := by unfold wrap64; omega
  have w2 : wrap64 (2 + 1) = 3 := by unfold wrap64; omega
  unfold cmp_Or_int.f
  rw [l3]
  refine evShift ?_
  simp only [cmp_Or_int.l0, l3, r0, w0]
  refine evPos (by decide) (evPos (by decide) (evPos (by decide) (evIf (fun h => ?_) (fun h => evSome (by rw [if_neg h])))))
  rw [if_pos h]
  refine evShift ?_
  simp only [cmp_Or_int.l0, l3, r1, w1]
  refine evPos (by decide) (evPos (by decide) (evPos (by decide) (evIf (fun h => ?_) (fun h => evSome (by rw [if_neg h])))))
  rw [if_pos h]
  refine evShift ?_
  simp only [cmp_Or_int.l0, l3, r2, w2]
  refine evPos (by decide) (evPos (by decide) (evPos (by decide) (evIf (fun h => ?_) (fun h => evSome rfl))))
  refine evShift ?_
  simp only [cmp_Or_int.l0]
  exact evNeg (by decide) (evSome h.symm)
theorem val_Compare_ev (v w : S44) : Ev (fun k => val_Compare.f k v.f0 v.f1 v.f2 w.f0 w.f1 w.f2) (cmpV v w) := by
  unfold val_Compare.f
  simp only [cmp_Compare_eq, strings_Compare.f, Option.bind_some]
  exact Ev.bind (cmp_Or_ev _ _ _) (evSome rfl)
def holdsS (how : Int) (v w : S44) : Bool × Int :=
  if (decide (1 ≤ how ∧ how ≤ 4) && (valS v.f0 v.f1 v.f2 && valS w.f0 w.f1 w.f2)) = true then
    (if (how = 3 ∨ how = 4) ∧ v.f0 ≠ w.f0 then (false, 3) else (if how = 1 then cmpV v w == 0 else if how = 2 then cmpV v w != 0 else if how = 3 then decide (cmpV v w < 0) else decide (cmpV v w ≤ 0), 0))
  else (false, 1)
end Go.Proofs.YtaopajmpifenoaaDoor.P
end
section
namespace Go.Proofs.YtaopajmpifenoaaDoor.P
open Go.RowKit Go.Proofs.YtaopajmpifenoaaDoorW.PrintWords Go.Proofs.YtaopajmpifenoaaDoorW.PrintLast Go.Proofs.YtaopajmpifenoaaDoorW.PrintMore
def vI (a : Int) : S44 := ⟨1, a, ⟨#[]⟩⟩
def vY (s : ByteArray) : S44 := ⟨2, 0, s⟩
def vS (s : ByteArray) : S44 := ⟨3, 0, s⟩
theorem val_beq (v w : S44) : (v.f0 == w.f0 && (v.f1 == w.f1 && (v.f2.toList == w.f2.toList))) = (cmpV v w == 0) := by
  rw [Bool.eq_iff_iff, beq_iff_eq, cmpV_zero, tl_beq]
  cases v; cases w
  simp
theorem cmpB_nil : cmpB ⟨#[]⟩ ⟨#[]⟩ = 0 := (cmpB_zero _ _).2 rfl
theorem cmp_vI (a b : Int) : cmpV (vI a) (vI b) = cmpI a b := by
  show (if cmpI 1 1 = 0 then (if cmpI a b = 0 then cmpB ⟨#[]⟩ ⟨#[]⟩ else cmpI a b) else cmpI 1 1) = _
  rw [if_pos ((cmpI_zero 1 1).2 rfl), cmpB_nil]
  split
  · exact (‹cmpI a b = 0›).symm
  · rfl
def Tr (x y z : Int) : Prop := (x ≤ 0 → y ≤ 0 → z ≤ 0) ∧ (x < 0 → y ≤ 0 → z < 0) ∧ (x ≤ 0 → y < 0 → z < 0) ∧ (x = 0 → y = 0 → z = 0)
def lexI (a b : Int) : Int := if a = 0 then b else a
theorem Tr.lex {x y z a b c : Int} (h : Tr x y z) (k : Tr a b c) : Tr (lexI x a) (lexI y b) (lexI z c) := by
  unfold Tr lexI at *
  obtain ⟨h1, h2, h3, h4⟩ := h
  obtain ⟨k1, k2, k3, k4⟩ := k
  by_cases ex : x = 0
  · by_cases ey : y = 0
    · rw [if_pos ex, if_pos ey, if_pos (h4 ex ey)]; exact ⟨k1, k2, k3, k4⟩
    · rw [if_pos ex, if_neg ey]
      refine ⟨fun _ q => ?_, fun _ q => ?_, fun _ q => ?_, fun _ q => absurd q ey⟩ <;> (have := h3 (by omega) (by omega); rw [if_neg (by omega)]; omega)
  · by_cases ey : y = 0
    · rw [if_neg ex, if_pos ey]
      refine ⟨fun p _ => ?_, fun p _ => ?_, fun p _ => ?_, fun p _ => absurd p ex⟩ <;> (have := h2 (by omega) (by omega); rw [if_neg (by omega)]; omega)
    · rw [if_neg ex, if_neg ey]
      refine ⟨fun p q => ?_, fun p q => ?_, fun p q => ?_, fun p _ => absurd p ex⟩ <;> (have := h2 (by omega) (by omega); rw [if_neg (by omega)]; omega)
theorem cmpI_tr (a b c : Int) : Tr (cmpI a b) (cmpI b c) (cmpI a c) := by
  unfold Tr cmpI
  refine ⟨?_, ?_, ?_, ?_⟩ <;> (intro p q; repeat' split at p) <;> (repeat' split at q) <;> (repeat' split) <;> omega
theorem cb_cons (x y : UInt8) (a b : List UInt8) : Lib.compareBytes (x :: a) (y :: b) = lexI (cmpI (x.toNat : Int) (y.toNat : Int)) (Lib.compareBytes a b) := by
  simp only [Lib.compareBytes, UInt8.lt_iff_toNat_lt]
  by_cases h : x.toNat < y.toNat
  · have e : cmpI (x.toNat : Int) (y.toNat : Int) = -1 := by unfold cmpI; rw [if_pos (by omega)]
    rw [if_pos h, e]; rfl
  · rw [if_neg h]
    by_cases h2 : y.toNat < x.toNat
    · have e : cmpI (x.toNat : Int) (y.toNat : Int) = 1 := by unfold cmpI; rw [if_neg (by omega), if_pos (by omega)]
      rw [if_pos h2, e]; rfl
    · have e : cmpI (x.toNat : Int) (y.toNat : Int) = 0 := by unfold cmpI; rw [if_neg (by omega), if_neg (by omega)]
      rw [if_neg h2, e]; rfl
theorem cb_nn : Lib.compareBytes [] [] = 0 := rfl
theorem cb_nc (y : UInt8) (b : List UInt8) : Lib.compareBytes [] (y :: b) = -1 := rfl
theorem cb_cn (x : UInt8) (a : List UInt8) : Lib.compareBytes (x :: a) [] = 1 := rfl
theorem cb_tr : ∀ a b c : List UInt8, Tr (Lib.compareBytes a b) (Lib.compareBytes b c) (Lib.compareBytes a c)
  | [], [], [] => by unfold Tr; rw [cb_nn]; omega
  | [], [], _ :: _ => by unfold Tr; rw [cb_nn, cb_nc]; omega
  | [], _ :: _, [] => by unfold Tr; rw [cb_nn, cb_nc, cb_cn]; omega
  | [], _ :: _, _ :: _ => by unfold Tr; rw [cb_nc, cb_nc]; omega
  | _ :: _, [], [] => by unfold Tr; rw [cb_nn, cb_cn]; omega
  | _ :: _, [], _ :: _ => by unfold Tr; rw [cb_cn, cb_nc]; omega
  | _ :: _, _ :: _, [] => by unfold Tr; rw [cb_cn, cb_cn]; omega
  | x :: a, y :: b, z :: c => by
    rw [cb_cons, cb_cons, cb_cons]
    exact (cmpI_tr _ _ _).lex (cb_tr a b c)
theorem cmpV_lex (v w : S44) : cmpV v w = lexI (cmpI v.f0 w.f0) (lexI (cmpI v.f1 w.f1) (cmpB v.f2 w.f2)) := rfl
theorem cmpV_tr (u v w : S44) : Tr (cmpV u v) (cmpV v w) (cmpV u w) := by
  rw [cmpV_lex, cmpV_lex, cmpV_lex]
  exact (cmpI_tr _ _ _).lex ((cmpI_tr _ _ _).lex (cb_tr _ _ _))
theorem cmpI_bd (a b : Int) : -1 ≤ cmpI a b ∧ cmpI a b ≤ 1 := by unfold cmpI; split <;> (try split) <;> omega
theorem lexI_bd {a b : Int} (h : -1 ≤ a ∧ a ≤ 1) (k : -1 ≤ b ∧ b ≤ 1) : -1 ≤ lexI a b ∧ lexI a b ≤ 1 := by unfold lexI; split <;> assumption
theorem cb_bd : ∀ a b : List UInt8, -1 ≤ Lib.compareBytes a b ∧ Lib.compareBytes a b ≤ 1
  | [], [] => by rw [cb_nn]; omega
  | [], _ :: _ => by rw [cb_nc]; omega
  | _ :: _, [] => by rw [cb_cn]; omega
  | x :: a, y :: b => by rw [cb_cons]; exact lexI_bd (cmpI_bd _ _) (cb_bd a b)
theorem cmpV_bd (v w : S44) : -1 ≤ cmpV v w ∧ cmpV v w ≤ 1 := by
  rw [cmpV_lex]
  exact lexI_bd (cmpI_bd _ _) (lexI_bd (cmpI_bd _ _) (cb_bd _ _))
end Go.Proofs.YtaopajmpifenoaaDoor.P
end
section
namespace Go.Proofs.YtaopajmpifenoaaDoor.P
open Go.RowKit Go.Proofs.YtaopajmpifenoaaDoorW.PrintWords Go.Proofs.YtaopajmpifenoaaDoorW.PrintLast Go.Proofs.YtaopajmpifenoaaDoorW.PrintMore
def ByteL (l : List Int) : Prop := ∀ c ∈ l, 0 ≤ c ∧ c < 256
theorem byteL_codes (s : ByteArray) : ByteL (bytesOf s) := by
  intro c hc
  unfold bytesOf at hc
  obtain ⟨b, _, rfl⟩ := List.mem_map.1 hc
  have := b.toNat_lt
  omega
theorem codes_of_nums {l : List Int} (h : ByteL l) : bytesOf (strOfNums l) = l := by
  unfold bytesOf
  rw [strOfNums_data, List.map_map]
  induction l with
  | nil => rfl
  | cons c l ih =>
    have hc := h c (List.mem_cons_self ..)
    rw [List.map_cons, ih (fun x hx => h x (List.mem_cons_of_mem _ hx))]
    congr 1
    show (((UInt8.ofNat c.toNat).toNat : Nat) : Int) = c
    rw [UInt8.toNat_ofNat']
    omega
theorem nums_codes (s : ByteArray) : strOfNums (bytesOf s) = s := codes_inj (codes_of_nums (byteL_codes s))
theorem nums_size (l : List Int) : (strOfNums l).size = l.length := strOfNums_size l
theorem codes_append (s t : ByteArray) : bytesOf (s ++ t) = bytesOf s ++ bytesOf t := by
  unfold bytesOf
  rw [← List.map_append, ByteArray.data_append, Array.toList_append]
theorem nums_append (l m : List Int) : strOfNums l ++ strOfNums m = strOfNums (l ++ m) := by
  apply ByteArray.ext
  apply Array.toList_inj.1
  rw [ByteArray.data_append, Array.toList_append, strOfNums_data, strOfNums_data, strOfNums_data, List.map_append]
theorem ext_one (s : ByteArray) (i : Nat) (h : i < s.size) : s.extract i (i + 1) = strOfNums [bt s i] := by
  apply codes_inj
  have hb : ByteL [bt s i] := by
    obtain ⟨x, h1, h2⟩ := codes_split s i h
    intro c hc
    rw [List.mem_singleton.1 hc, h2]
    exact byteL_codes s x (List.mem_of_mem_drop (by rw [h1]; exact List.mem_cons_self ..))
  rw [codes_of_nums hb]
  obtain ⟨x, h1, h2⟩ := codes_split s i h
  unfold bytesOf at h1 ⊢
  rw [ByteArray.data_extract, Array.toList_extract, List.extract_eq_take_drop, List.map_take, List.map_drop, h1, h2, show i + 1 - i = 1 by omega]
  rfl
theorem byteL_append {l m : List Int} (h : ByteL l) (k : ByteL m) : ByteL (l ++ m) := fun c hc => (List.mem_append.1 hc).elim (h c) (k c)
theorem byteL_cons {c : Int} {l : List Int} (hc : 0 ≤ c ∧ c < 256) (h : ByteL l) : ByteL (c :: l) := fun x hx => (List.mem_cons.1 hx).elim (fun e => e ▸ hc) (h x)
def escS : List Int → List Int
  | [] => []
  | c :: l => if c = 34 ∨ c = 92 then 92 :: c :: escS l else c :: escS l
theorem escS_len : ∀ l : List Int, (escS l).length ≤ 2 * l.length
  | [] => by simp [escS]
  | c :: l => by
    have := escS_len l
    unfold escS
    split <;> simp <;> omega
theorem escS_byte : ∀ {l : List Int}, ByteL l → ByteL (escS l)
  | [], _ => by intro c hc; cases hc
  | c :: l, h => by
    have h1 := h c (List.mem_cons_self ..)
    have h2 := escS_byte (l := l) (fun x hx => h x (List.mem_cons_of_mem _ hx))
    unfold escS
    split
    · exact byteL_cons (by decide) (byteL_cons h1 h2)
    · exact byteL_cons h1 h2
def quoteL (l : List Int) : List Int := 34 :: (escS l ++ [34])
theorem quoteL_byte {l : List Int} (h : ByteL l) : ByteL (quoteL l) := byteL_cons (by decide) (byteL_append (escS_byte h) (by intro c hc; rw [List.mem_singleton.1 hc]; decide))
def quoteS (s : ByteArray) : ByteArray := strOfNums (quoteL (bytesOf s))
def textS (kind n : Int) (s : ByteArray) : ByteArray := if kind = 1 then ⟨(Lib.itoa n).toArray⟩ else if kind = 2 then s else quoteS s
theorem quoted_l0 (s : ByteArray) (hs : s.size ≤ 1000000) : ∀ (d i : Nat) (x : List Int), i + d = s.size → x.length ≤ 2 * i + 1 →
    Ev (fun k => val_quoted.l0 k s x s.size i) (strOfNums (x ++ (escS ((bytesOf s).drop i) ++ [34]))) := by
  intro d
  induction d with
  | zero =>
    intro i x hi hx
    refine evShift ?_
    simp only [val_quoted.l0]
    refine evNeg (by omega) (evPos (by omega) (evSome ?_))
    rw [show i = s.size by omega, drop_end]; rfl
  | succ d ih =>
    intro i x hi hx
    have hlt : i < s.size := by omega
    obtain ⟨c, h1, h2⟩ := codes_split s i hlt
    refine evShift ?_
    simp only [val_quoted.l0, Option.bind_some, h2]
    rw [h1, wrap_succ hlt (by omega)]
    unfold escS
    have two : c = 34 ∨ c = 92 → Ev (fun k => if x.length < 140737488355328 then (if (x ++ [92]).length < 140737488355328 then val_quoted.l0 k s (x ++ [92] ++ [c]) s.size ((i + 1 : Nat) : Int) else none) else none) (strOfNums (x ++ ((if c = 34 ∨ c = 92 then 92 :: c :: escS ((bytesOf s).drop (i + 1)) else c :: escS ((bytesOf s).drop (i + 1))) ++ [34]))) := by
      intro hc
      rw [if_pos hc]
      refine evPos (by omega) (evPos (by simp; omega) ?_)
      have := ih (i + 1) (x ++ [92] ++ [c]) (by omega) (by simp; omega)
      rw [show x ++ [92] ++ [c] ++ (escS ((bytesOf s).drop (i + 1)) ++ [34]) = x ++ (92 :: c :: escS ((bytesOf s).drop (i + 1)) ++ [34]) by simp] at this
      exact this
    refine evPos (by omega) (evPos (by omega) (evPos (by omega) (evIf (fun e => two (.inl e)) (fun e1 => evIf (fun e => two (.inr e)) (fun e2 => evPos (by omega) ?_)))))
    rw [if_neg (fun h => h.elim e1 e2)]
    have := ih (i + 1) (x ++ [c]) (by omega) (by simp; omega)
    rw [show x ++ [c] ++ (escS ((bytesOf s).drop (i + 1)) ++ [34]) = x ++ (c :: escS ((bytesOf s).drop (i + 1)) ++ [34]) by simp] at this
    exact this
theorem val_quoted_ev (s : ByteArray) (hs : s.size ≤ 1000000) : Ev (fun k => val_quoted.f k s) (quoteS s) := by
  have := quoted_l0 s hs s.size 0 [34] (by omega) (by simp)
  rw [List.drop_zero] at this
  exact this
theorem valS_str {k n : Int} {s : ByteArray} (h : valS k n s = true) (h1 : ¬ k = 1) (h2 : ¬ k = 2) : k = 3 ∧ n = 0 ∧ (bytesOf s).all plainI = true ∧ s.size ≤ 60 := by
  unfold valS at h
  rw [if_neg h1, if_neg h2] at h
  by_cases h3 : k = 3
  · rw [if_pos h3] at h
    simp only [Bool.and_eq_true, decide_eq_true_eq] at h
    exact ⟨h3, h.1.1, h.1.2, h.2⟩
  · rw [if_neg h3] at h; cases h
theorem valS_sym {n : Int} {s : ByteArray} (h : valS 2 n s = true) : n = 0 ∧ wordS false s = true := by
  unfold valS at h
  rw [if_neg (by decide), if_pos rfl] at h
  simpa using h
theorem valS_int {n : Int} {s : ByteArray} (h : valS 1 n s = true) : InB n ∧ s = ⟨#[]⟩ := by
  unfold valS at h
  rw [if_pos rfl] at h
  simpa using h
theorem val_Text_ev (k n : Int) (s : ByteArray) (hs : s.size ≤ maxLen) : Ev (fun r => val_Text.f r k n s) (if valS k n s then (textS k n s, 0) else (⟨#[]⟩, 1)) := by
  unfold val_Text.f
  refine Ev.bind (val_Check_ev k n s hs) ?_
  cases h : valS k n s with
  | false => exact evNeg (by decide) (evSome rfl)
  | true =>
    refine evPos rfl ?_
    simp only [if_true]
    unfold textS
    refine evIf (fun e => ?_) (fun e => ?_)
    · subst e
      obtain ⟨hb, _⟩ := valS_int h
      rw [InB_iff] at hb
      rw [if_pos rfl]
      simp only [strconv_Itoa.f]
      rw [if_pos ⟨by omega, by omega⟩]
      exact evSome rfl
    · rw [if_neg e]
      refine evIf (fun e2 => evSome (by rw [if_pos e2])) (fun e2 => ?_)
      rw [if_neg e2]
      obtain ⟨_, _, _, h4⟩ := valS_str h e e2
      exact Ev.bind (val_quoted_ev s (by omega)) (evSome rfl)
end Go.Proofs.YtaopajmpifenoaaDoor.P
end
section
namespace Go.Proofs.YtaopajmpifenoaaDoor.P
open Go.RowKit Go.Proofs.YtaopajmpifenoaaDoorW.PrintWords Go.Proofs.YtaopajmpifenoaaDoorW.PrintLast Go.Proofs.YtaopajmpifenoaaDoorW.PrintMore
def bareS : List Int → List Int
  | [] => []
  | [c] => [c]
  | c :: d :: r => if c = 92 then d :: bareS r else c :: bareS (d :: r)
theorem bareS_cons {c : Int} (h : ¬ c = 92) (m : List Int) : bareS (c :: m) = c :: bareS m := by
  cases m with
  | nil => rfl
  | cons d r => simp only [bareS, if_neg h]
theorem bareS_pair (d : Int) (m : List Int) : bareS (92 :: d :: m) = d :: bareS m := by simp only [bareS, if_true]
theorem bare_esc : ∀ l : List Int, bareS (escS l) = l
  | [] => rfl
  | c :: l => by
    unfold escS
    split
    · rw [bareS_pair, bare_esc l]
    · rw [bareS_cons (fun h => ‹¬ (c = 34 ∨ c = 92)› (.inr h)), bare_esc l]
theorem bare_len : ∀ (n : Nat) (l : List Int), l.length ≤ n → (bareS l).length ≤ l.length
  | _, [], _ => by simp [bareS]
  | _, [c], _ => by simp [bareS]
  | 0, c :: d :: r, h => by simp at h
  | n + 1, c :: d :: r, h => by
    unfold bareS
    split
    · have := bare_len n r (by simp at h; omega)
      simp; omega
    · have := bare_len n (d :: r) (by simp at h ⊢; omega)
      simp at this ⊢; omega
theorem take_split (s : ByteArray) (N i : Nat) (hN : N ≤ s.size) (h : i < N) : ((bytesOf s).take N).drop i = bt s i :: ((bytesOf s).take N).drop (i + 1) := by
  have hl : i < ((bytesOf s).take N).length := by rw [List.length_take, len_codes]; omega
  rw [List.drop_eq_getElem_cons hl, List.getElem_take]
  obtain ⟨x, h1, h2⟩ := codes_split s i (by omega)
  rw [h2]
  have := List.drop_eq_getElem_cons (show i < (bytesOf s).length by rw [len_codes]; omega)
  rw [this] at h1
  injection h1 with h1 _
  rw [h1]
theorem take_end (s : ByteArray) (N i : Nat) (h : N ≤ i) : ((bytesOf s).take N).drop i = [] := by
  rw [List.drop_eq_nil_iff, List.length_take]; omega
theorem bare_l0 (s : ByteArray) (h0 : 1 ≤ s.size) (hs : s.size ≤ 1000000) : ∀ (d i : Nat) (x : List Int), s.size - 1 - i ≤ d → x.length ≤ i →
    Ev (fun k => val_bare.l0 k s x i) (strOfNums (x ++ bareS (((bytesOf s).take (s.size - 1)).drop i))) := by
  have hw : wrap64 ((s.size : Int) - 1) = ((s.size - 1 : Nat) : Int) := by unfold wrap64; omega
  intro d
  induction d with
  | zero =>
    intro i x hd hx
    refine evShift ?_
    simp only [val_bare.l0, hw]
    refine evNeg (by omega) (evSome ?_)
    rw [take_end s _ i (by omega)]; simp [bareS]
  | succ d ih =>
    intro i x hd hx
    refine evShift ?_
    simp only [val_bare.l0, hw]
    by_cases hlt : i < s.size - 1
    · rw [take_split s _ i (by omega) hlt]
      have w1 : wrap64 ((i : Int) + 1) = ((i + 1 : Nat) : Int) := wrap_succ (show i < s.size by omega) (by omega)
      have one : ∀ c : Int, (c = 92 → ((bytesOf s).take (s.size - 1)).drop (i + 1) = []) → Ev (fun k => val_bare.l0 k s (x ++ [c]) ((i + 1 : Nat) : Int)) (strOfNums (x ++ bareS (c :: ((bytesOf s).take (s.size - 1)).drop (i + 1)))) := by
        intro c hc
        have := ih (i + 1) (x ++ [c]) (by omega) (by simp; omega)
        by_cases h92 : c = 92
        · rw [hc h92] at this ⊢
          simpa [bareS] using this
        · rw [bareS_cons h92]
          simpa using this
      refine evPos (by omega) (evPos (by omega) (evPos (by omega) (evIf (fun e => ?_) (fun e => evPos (by omega) ?_))))
      · rw [w1]
        by_cases h2 : i + 1 < s.size - 1
        · refine evPos (by omega) (evPos (by omega) (evPos (by omega) (evPos (by omega) ?_)))
          rw [e, take_split s _ (i + 1) (by omega) h2, bareS_pair, wrap_succ (show i + 1 < s.size by omega) (by omega)]
          have := ih (i + 1 + 1) (x ++ [bt s ((i + 1 : Nat) : Int)]) (by omega) (by simp; omega)
          simpa using this
        · refine evNeg (by omega) (evPos (by omega) ?_)
          rw [e]
          exact one 92 (fun _ => take_end s _ _ (by omega))
      · rw [w1]
        exact one _ (fun h => absurd h e)
    · refine evNeg (by omega) (evSome ?_)
      rw [take_end s _ i (by omega)]; simp [bareS]
def innerL (s : ByteArray) : List Int := ((bytesOf s).take (s.size - 1)).drop 1
theorem val_bare_ev (s : ByteArray) (h0 : 1 ≤ s.size) (hs : s.size ≤ 1000000) : Ev (fun k => val_bare.f k s) (strOfNums (bareS (innerL s))) := by
  by_cases h1 : s.size = 1
  · have e : innerL s = [] := take_end s _ _ (by omega)
    rw [e]
    unfold val_bare.f
    refine evShift ?_
    simp only [val_bare.l0]
    exact evNeg (by rw [h1]; unfold wrap64; omega) (evSome rfl)
  · have := bare_l0 s h0 hs s.size 1 [] (by omega) (by simp)
    exact this
def zE : S44 := ⟨0, 0, ⟨#[]⟩⟩
def candS (s : ByteArray) : Option S44 :=
  if bt s 0 = 34 then some ⟨3, 0, strOfNums (bareS (innerL s))⟩
  else if bt s 0 = 45 ∨ digitI (bt s 0) = true then (match Lib.atoiAll s.data.toList with | .ok n => some ⟨1, n, ⟨#[]⟩⟩ | _ => none)
  else some ⟨2, 0, s⟩
def fitsS (v : S44) (s : ByteArray) : Bool := valS v.f0 v.f1 v.f2 && decide (textS v.f0 v.f1 v.f2 = s)
def parseS (s : ByteArray) : S44 × Int :=
  if s = ⟨#[]⟩ then (zE, 7) else match candS s with | some v => if fitsS v s then (v, 0) else (zE, 7) | none => (zE, 7)
def tupP (p : S44 × Int) : Int × Int × ByteArray × Int := (p.1.f0, p.1.f1, p.1.f2, p.2)
theorem parse_fin (v : S44) (s : ByteArray) (hv : v.f2.size ≤ maxLen) (g : Nat → Int × ByteArray → Option (Int × Int × ByteArray × Int)) :
    Ev (fun k => (val_Text.f k v.f0 v.f1 v.f2).bind fun b => (if b.2 = 0 then (if b.1.toList = s.toList then (some (v.f0, v.f1, v.f2, 0)) else (some (0, 0, (⟨#[]⟩ : ByteArray), 7))) else (some (0, 0, (⟨#[]⟩ : ByteArray), 7)))) (tupP (if fitsS v s then (v, 0) else (zE, 7))) := by
  refine Ev.bind (val_Text_ev v.f0 v.f1 v.f2 hv) ?_
  unfold fitsS
  cases h : valS v.f0 v.f1 v.f2 with
  | false => exact evNeg (show ¬ (1 : Int) = 0 by decide) (evSome rfl)
  | true =>
    refine evPos rfl ?_
    simp only [if_true, Bool.true_and]
    by_cases e : textS v.f0 v.f1 v.f2 = s
    · rw [decide_eq_true e]
      exact evPos (tl_inj.2 e) (evSome rfl)
    · rw [decide_eq_false e]
      exact evNeg (fun h => e (tl_inj.1 h)) (evSome rfl)
theorem val_Parse_ev (s : ByteArray) (hs : s.size ≤ 1000000) : Ev (fun k => val_Parse.f k s) (tupP (parseS s)) := by
  have z : (⟨#[]⟩ : ByteArray).size ≤ maxLen := by unfold maxLen; exact Nat.zero_le _
  unfold val_Parse.f parseS
  by_cases h0 : s = ⟨#[]⟩
  · refine evPos (tl_nil.2 h0) (evSome ?_)
    rw [if_pos h0]; rfl
  refine evNeg (fun h => h0 (tl_nil.1 h)) ?_
  rw [if_neg h0]
  have h1 : 1 ≤ s.size := by
    have : ¬ s.size = 0 := fun h => h0 (size_zero.1 h)
    omega
  refine evPos (by omega) ?_
  unfold candS
  refine evIf (fun e => ?_) (fun e => ?_)
  · rw [if_pos e]
    refine Ev.bind (val_bare_ev s h1 hs) ?_
    have hl : (strOfNums (bareS (innerL s))).size ≤ maxLen := by
      have h1 := bare_len _ (innerL s) (Nat.le_refl _)
      have h2 : (innerL s).length ≤ s.size := by unfold innerL; rw [List.length_drop, List.length_take, len_codes]; omega
      rw [nums_size]; unfold maxLen; omega
    exact parse_fin ⟨3, 0, strOfNums (bareS (innerL s))⟩ s hl (fun _ _ => none)
  · rw [if_neg e]
    have jf : Ev (fun k => val_Parse.j0 k s false 2 0 s) (tupP (if fitsS ⟨2, 0, s⟩ s then (⟨2, 0, s⟩, 0) else (zE, 7))) := by
      refine evShift ?_
      simp only [val_Parse.j0, Bool.false_eq_true, if_false]
      exact parse_fin ⟨2, 0, s⟩ s (by unfold maxLen; show s.size ≤ _; omega) (fun _ _ => none)
    have jt : Ev (fun k => val_Parse.j0 k s true 2 0 s) (tupP (match (match Lib.atoiAll s.data.toList with | .ok n => some (⟨1, n, ⟨#[]⟩⟩ : S44) | _ => none) with | some v => if fitsS v s then (v, 0) else (zE, 7) | none => (zE, 7))) := by
      refine evShift ?_
      simp only [val_Parse.j0, if_true, strconv_Atoi.f]
      rw [if_pos (by omega)]
      cases Lib.atoiAll s.data.toList with
      | ok n => exact evBind0 rfl (evPos rfl (parse_fin ⟨1, n, ⟨#[]⟩⟩ s z (fun _ _ => none)))
      | «syntax» => exact evBind0 rfl (evNeg (show ¬ ((some (0 : Int)).isNone = true) by decide) (evSome rfl))
      | range => exact evBind0 rfl (evNeg (show ¬ ((some (0 : Int)).isNone = true) by decide) (evSome rfl))
    by_cases e2 : bt s 0 = 45
    · rw [if_pos (.inl e2)]
      exact evPos e2 jt
    · refine evNeg e2 ?_
      simp only [val_digit_eq, Option.bind_some]
      cases hd : digitI (bt s 0) with
      | true => rw [if_pos (.inr rfl)]; exact jt
      | false => rw [if_neg (fun h => h.elim e2 (by decide))]; exact jf
theorem dig_nat {d : Nat} (h : d < 10) : (UInt8.ofNat (48 + d)).toNat = 48 + d := by rw [UInt8.toNat_ofNat']; omega
theorem dec_parse : ∀ (n u : Nat) (r : List UInt8), u ≤ n → u < 9223372036854775809 → Lib.parseUint10 0 (Lib.decDigits u ++ r) = Lib.parseUint10 u r
  | n, u, r, hn, hu => by
    rw [Lib.decDigits]
    by_cases h : u < 10
    · rw [dif_pos h]
      simp only [List.cons_append, List.nil_append, Lib.parseUint10, dig_nat h]
      rw [if_pos (by omega), if_neg (by omega), if_neg (by omega)]
      congr 1; omega
    · rw [dif_neg h]
      cases n with
      | zero => omega
      | succ n =>
        rw [List.append_assoc, dec_parse n (u / 10) _ (by omega) (by omega)]
        simp only [List.cons_append, List.nil_append, Lib.parseUint10, dig_nat (show u % 10 < 10 by omega)]
        rw [if_pos (by omega), if_neg (by omega), if_neg (by omega)]
        congr 1; omega
theorem dec_digits : ∀ (n u : Nat), u ≤ n → ∀ c ∈ Lib.decDigits u, 48 ≤ c.toNat ∧ c.toNat ≤ 57
  | n, u, hn, c, hc => by
    rw [Lib.decDigits] at hc
    by_cases h : u < 10
    · rw [dif_pos h] at hc
      rw [List.mem_singleton.1 hc, dig_nat h]; omega
    · rw [dif_neg h] at hc
      cases n with
      | zero => omega
      | succ n =>
        rcases List.mem_append.1 hc with hc | hc
        · exact dec_digits n (u / 10) (by omega) c hc
        · rw [List.mem_singleton.1 hc, dig_nat (show u % 10 < 10 by omega)]; omega
theorem dec_cons (u : Nat) : ∃ c r, Lib.decDigits u = c :: r ∧ 48 ≤ c.toNat ∧ c.toNat ≤ 57 := by
  cases h : Lib.decDigits u with
  | nil =>
    have := Lib.decDigits_length u
    rw [h] at this
    have := Lib.nDigits_pos u
    simp at *; omega
  | cons c r => exact ⟨c, r, rfl, dec_digits u u (Nat.le_refl _) c (by rw [h]; exact List.mem_cons_self ..)⟩
theorem dec_mag {u : Nat} (h : u < 9223372036854775809) : Lib.parseMag (Lib.decDigits u) = .ok u := by
  obtain ⟨c, r, e, _⟩ := dec_cons u
  have := dec_parse u u [] (Nat.le_refl _) h
  rw [List.append_nil] at this
  unfold Lib.parseMag
  rw [if_neg (by rw [e]; simp), this]
  rfl
theorem atoi_itoa {n : Int} (h : InB n) : Lib.atoiAll (Lib.itoa n) = .ok n := by
  rw [InB_iff] at h
  unfold Lib.itoa
  by_cases hn : n < 0
  · rw [if_pos hn]
    have hm := dec_mag (show n.natAbs < 9223372036854775809 by omega)
    have : (45 : UInt8).toNat = 45 := rfl
    simp only [Lib.atoiAll, this, or_true, if_true, hm, not_true, false_and, if_false, true_and]
    rw [if_neg (by omega)]
    congr 1; omega
  · rw [if_neg hn]
    have hm := dec_mag (show n.toNat < 9223372036854775809 by omega)
    obtain ⟨c, r, e, h1, h2⟩ := dec_cons n.toNat
    rw [e] at hm ⊢
    simp only [Lib.atoiAll]
    rw [if_neg (show ¬ (c.toNat = 43 ∨ c.toNat = 45) by omega), hm]
    simp only
    rw [if_neg (by omega), if_neg (by omega), if_neg (by omega)]
    congr 1; omega
theorem codes_mk (l : List UInt8) : bytesOf ⟨l.toArray⟩ = l.map fun b => ((b.toNat : Nat) : Int) := rfl
theorem bt_zero {s : ByteArray} {c : Int} {l : List Int} (h : bytesOf s = c :: l) : bt s 0 = c := by rw [bt_codes, h]; rfl
theorem itoa_codes (n : Int) : ∃ c l, bytesOf ⟨(Lib.itoa n).toArray⟩ = c :: l ∧ ((n < 0 ∧ c = 45) ∨ (0 ≤ n ∧ 48 ≤ c ∧ c ≤ 57)) ∧ ∀ d ∈ l, 48 ≤ d ∧ d ≤ 57 := by
  rw [codes_mk]
  unfold Lib.itoa
  by_cases hn : n < 0
  · rw [if_pos hn]
    refine ⟨45, (Lib.decDigits n.natAbs).map fun b => ((b.toNat : Nat) : Int), rfl, .inl ⟨hn, rfl⟩, fun d hd => ?_⟩
    obtain ⟨b, hb, rfl⟩ := List.mem_map.1 hd
    have := dec_digits _ n.natAbs (Nat.le_refl _) b hb
    omega
  · rw [if_neg hn]
    obtain ⟨c, r, e, h1, h2⟩ := dec_cons n.toNat
    rw [e]
    refine ⟨c.toNat, r.map fun b => ((b.toNat : Nat) : Int), rfl, .inr ⟨by omega, by omega, by omega⟩, fun d hd => ?_⟩
    obtain ⟨b, hb, rfl⟩ := List.mem_map.1 hd
    have := dec_digits _ n.toNat (Nat.le_refl _) b (by rw [e]; exact List.mem_cons_of_mem _ hb)
    omega
theorem sym_first {s : ByteArray} (h : wordS false s = true) : 1 ≤ s.size ∧ smallI (bt s 0) = true ∧ (bytesOf s).all innerI = true := by
  unfold wordS at h
  simp only [Bool.and_eq_true, decide_eq_true_eq, Bool.false_eq_true, if_false] at h
  exact ⟨h.1.1.1, h.1.2, h.2⟩
theorem inner_quote (s : ByteArray) : innerL (quoteS s) = escS (bytesOf s) := by
  have hb := quoteL_byte (byteL_codes s)
  unfold innerL quoteS
  rw [codes_of_nums hb, nums_size]
  unfold quoteL
  simp
theorem quote_ne (s : ByteArray) : ¬ quoteS s = ⟨#[]⟩ := by
  intro h
  have := congrArg ByteArray.size h
  unfold quoteS at this
  rw [nums_size] at this
  unfold quoteL at this
  simp at this
  exact absurd this (by show ¬ _ = 0; omega)
theorem cand_text {k n : Int} {s : ByteArray} (h : valS k n s = true) : ¬ textS k n s = ⟨#[]⟩ ∧ candS (textS k n s) = some ⟨k, n, s⟩ := by
  unfold textS
  by_cases h1 : k = 1
  · subst h1
    obtain ⟨hb, rfl⟩ := valS_int h
    rw [if_pos rfl]
    obtain ⟨c, l, e, hc, _⟩ := itoa_codes n
    refine ⟨fun h => (by rw [h] at e; cases e), ?_⟩
    unfold candS
    rw [bt_zero e, if_neg (by omega), if_pos, atoi_itoa hb]
    rcases hc with ⟨_, rfl⟩ | ⟨_, h1, h2⟩
    · exact .inl rfl
    · exact .inr (decide_eq_true ⟨h1, h2⟩)
  · rw [if_neg h1]
    by_cases h2 : k = 2
    · subst h2
      obtain ⟨rfl, hw⟩ := valS_sym h
      obtain ⟨hs, hf, _⟩ := sym_first hw
      rw [if_pos rfl]
      refine ⟨fun h => (by rw [h] at hs; exact absurd hs (by decide)), ?_⟩
      unfold smallI at hf
      rw [decide_eq_true_eq] at hf
      unfold candS
      rw [if_neg (by omega), if_neg]
      rintro (h | h)
      · omega
      · unfold digitI at h; rw [decide_eq_true_eq] at h; omega
    · rw [if_neg h2]
      obtain ⟨rfl, rfl, hp, _⟩ := valS_str h h1 h2
      refine ⟨quote_ne s, ?_⟩
      unfold candS
      have e : bytesOf (quoteS s) = 34 :: (escS (bytesOf s) ++ [34]) := codes_of_nums (quoteL_byte (byteL_codes s))
      rw [bt_zero e, if_pos rfl, inner_quote, bare_esc, nums_codes]
theorem parse_text {v : S44} (h : valS v.f0 v.f1 v.f2 = true) : parseS (textS v.f0 v.f1 v.f2) = (v, 0) := by
  obtain ⟨h1, h2⟩ := cand_text h
  unfold parseS
  rw [if_neg h1, h2]
  show (if fitsS v _ = true then (v, (0 : Int)) else (zE, 7)) = _
  unfold fitsS
  rw [h, decide_eq_true rfl]
  rfl
theorem parse_fits {s : ByteArray} : (∃ v, parseS s = (v, 0) ∧ valS v.f0 v.f1 v.f2 = true ∧ textS v.f0 v.f1 v.f2 = s) ∨ parseS s = (zE, 7) := by
  unfold parseS
  split
  · exact .inr rfl
  · split
    · split
      · rename_i v _ hf
        unfold fitsS at hf
        simp only [Bool.and_eq_true, decide_eq_true_eq] at hf
        exact .inl ⟨v, rfl, hf.1, hf.2⟩
      · exact .inr rfl
    · exact .inr rfl
theorem text_inj {v w : S44} (hv : valS v.f0 v.f1 v.f2 = true) (hw : valS w.f0 w.f1 w.f2 = true) (h : textS v.f0 v.f1 v.f2 = textS w.f0 w.f1 w.f2) : v = w := by
  have h1 := parse_text hv
  rw [h, parse_text hw] at h1
  exact (congrArg Prod.fst h1).symm
theorem valS_size {k n : Int} {s : ByteArray} (h : valS k n s = true) : s.size ≤ 60 := by
  by_cases h1 : k = 1
  · subst h1
    obtain ⟨_, rfl⟩ := valS_int h
    decide
  · by_cases h2 : k = 2
    · subst h2
      obtain ⟨_, hw⟩ := valS_sym h
      unfold wordS at hw
      simp only [Bool.and_eq_true, decide_eq_true_eq] at hw
      omega
    · exact (valS_str h h1 h2).2.2.2
theorem text_size {k n : Int} {s : ByteArray} (h : valS k n s = true) : (textS k n s).size ≤ 200 := by
  have hs := valS_size h
  unfold textS
  split
  · subst k
    obtain ⟨hb, _⟩ := valS_int h
    rw [InB_iff] at hb
    have := Lib.itoa_length_le n (by omega) (by omega)
    show (Lib.itoa n).toArray.size ≤ 200
    rw [List.size_toArray]; omega
  · split
    · omega
    · unfold quoteS quoteL
      rw [nums_size]
      have := escS_len (bytesOf s)
      rw [len_codes] at this
      simp; omega
end Go.Proofs.YtaopajmpifenoaaDoor.P
end
section
namespace Go.Proofs.YtaopajmpifenoaaDoor.P
open Go.RowKit Go.Proofs.YtaopajmpifenoaaDoorW.PrintWords Go.Proofs.YtaopajmpifenoaaDoorW.PrintLast Go.Proofs.YtaopajmpifenoaaDoorW.PrintMore
theorem wakes01_ev : Ev (fun k => constablelaw01_wakes.f k) true := Ev.of (constablelaw01_wakes.mono) (k := 60) (by decide +kernel)
theorem wakesEnd {g : Nat → Option Bool} (h : Ev g true) : Ev (fun k => (g k).bind fun t => some t) true := Ev.bind h (evSome rfl)
end Go.Proofs.YtaopajmpifenoaaDoor.P
end
section
namespace Go.Proofs.YtaopajmpifenoaaDoor.P
open Go.RowKit Go.Proofs.YtaopajmpifenoaaDoorW.PrintWords Go.Proofs.YtaopajmpifenoaaDoorW.PrintLast Go.Proofs.YtaopajmpifenoaaDoorW.PrintMore
structure Opens {α : Type} (d : Kd α) (P : Program) (t : TypeId) (ok : α → Prop) : Prop where
  cells : P.cellsOf t = d.sz
  opens : ∀ {H : Type} {enc : TypeId × Value → H} {w : World} {base : Nat} {spare : Nat → Bool} {held : Bool} {fuel : Nat} {cs : List Value} {x : DataW H × List MemPlace},
    DataW.trod enc P w base spare held fuel t cs = some x → ∃ v, d.K w v cs ∧ ok v
theorem Opens.mono {α : Type} {d : Kd α} {P : Program} {t : TypeId} {ok ok' : α → Prop} (h : Opens d P t ok) (hm : ∀ v, ok v → ok' v) : Opens d P t ok' :=
  ⟨h.cells, fun hx => by obtain ⟨v, h1, h2⟩ := h.opens hx; exact ⟨v, h1, hm v h2⟩⟩
theorem Opens.int {k : IntKind} {P : Program} {t : TypeId} (hu : P.underlying t = some (.int k)) (hc : P.cellsOf t = 1) : Opens (Kd.int k) P t (fun n => (Lit.int k n).wf = true) :=
  ⟨hc, fun hx => by obtain ⟨m, rfl, rfl, hw⟩ := DataW.trod_int hu hx; exact ⟨m, rfl, hw⟩⟩
theorem Opens.string {P : Program} {t : TypeId} (hu : P.underlying t = some .string) (hc : P.cellsOf t = 1) : Opens Kd.string P t (fun s => s.size ≤ maxLen) :=
  ⟨hc, fun hx => by obtain ⟨s, rfl, _, hw⟩ := DataW.trod_string hu hx; exact ⟨s, rfl, hw⟩⟩
theorem Opens.bool {P : Program} {t : TypeId} (hu : P.underlying t = some .bool) (hc : P.cellsOf t = 1) : Opens Kd.bool P t (fun _ => True) :=
  ⟨hc, fun hx => by obtain ⟨b, rfl, _⟩ := DataW.trod_bool hu hx; exact ⟨b, rfl, trivial⟩⟩
theorem Opens.iso {α β : Type} {d : Kd α} {P : Program} {t : TypeId} {ok : α → Prop} {f : β → α} (g : α → β) (hg : ∀ a, f (g a) = a) (h : Opens d P t ok) : Opens (Kd.iso d f) P t (fun b => ok (f b)) :=
  ⟨h.cells, fun hx => by
    obtain ⟨v, h1, h2⟩ := h.opens hx
    refine ⟨g v, ?_, ?_⟩
    · show d.K _ (f (g v)) _
      rw [hg]; exact h1
    · show ok (f (g v))
      rw [hg]; exact h2⟩
structure OpensFs {α : Type} (d : Kd α) (P : Program) (fs : List Field) (off : Nat) (ok : α → Prop) : Prop where
  opens : ∀ {H : Type} {enc : TypeId × Value → H} {w : World} {base : Nat} {spare : Nat → Bool} {held : Bool} {fuel : Nat} {cs : List Value},
    off + d.sz = cs.length → (∀ (i : Nat) (f : Field), fs[i]? = some f → ∃ x, DataW.trod enc P w base spare held fuel f.type ((cs.drop f.offset).take (P.cellsOf f.type)) = some x) → ∃ v, d.K w v (cs.drop off) ∧ ok v
theorem OpensFs.one {α : Type} {d : Kd α} {P : Program} {f : Field} {off : Nat} {ok : α → Prop} (ho : f.offset = off) (h : Opens d P f.type ok) : OpensFs d P [f] off ok := by
  refine ⟨?_⟩
  intro H enc w base spare held fuel cs hl hx
  obtain ⟨x, hx⟩ := hx 0 f rfl
  rw [ho, h.cells, List.take_of_length_le (by simp; omega)] at hx
  exact h.opens hx
theorem OpensFs.cons {α β : Type} {d : Kd α} {d' : Kd β} {P : Program} {f : Field} {fs : List Field} {off : Nat} {ok : α → Prop} {ok' : β → Prop} {ok2 : α × β → Prop} (ho : f.offset = off) (h : Opens d P f.type ok) (h' : OpensFs d' P fs (off + d.sz) ok') (hk : ∀ v, ok v.1 → ok' v.2 → ok2 v) :
    OpensFs (Kd.pair d d') P (f :: fs) off ok2 := by
  refine ⟨?_⟩
  intro H enc w base spare held fuel cs hl hx
  obtain ⟨x, hx0⟩ := hx 0 f rfl
  rw [ho, h.cells] at hx0
  obtain ⟨v, hv, ov⟩ := h.opens hx0
  have hl' : off + (d.sz + d'.sz) = cs.length := hl
  obtain ⟨u, hu, ou⟩ := h'.opens (cs := cs) (by omega) (fun i g hg => hx (i + 1) g hg)
  refine ⟨(v, u), ⟨(cs.drop off).take d.sz, cs.drop (off + d.sz), ?_, hv, hu⟩, hk (v, u) ov ou⟩
  rw [← List.drop_drop, List.take_append_drop]
theorem Opens.struct {α : Type} {d : Kd α} {P : Program} {t : TypeId} {fs : Array Field} {ok : α → Prop} (hu : P.underlying t = some (.struct fs)) (hc : P.cellsOf t = d.sz) (h : OpensFs d P fs.toList 0 ok) : Opens d P t ok := by
  refine ⟨hc, ?_⟩
  intro H enc w base spare held fuel cs x hx
  obtain ⟨xs, n, rfl, _, hl, hxl, hf⟩ := DataW.trod_struct hu hx
  have := h.opens (cs := cs) (enc := enc) (w := w) (base := base) (spare := spare) (held := held) (fuel := n) (by omega) (by
    intro i f hi
    have hi' : fs[i]? = some f := by simpa using hi
    have hlt : i < xs.length := by
      rw [hxl]
      exact (Array.getElem?_eq_some_iff.1 hi').1
    exact ⟨xs[i], by rw [hf i f hi', List.getElem?_eq_getElem hlt]⟩)
  simpa using this
theorem list_of {α : Type} {Q : Nat → α → Prop} : ∀ n : Nat, (∀ i, i < n → ∃ v, Q i v) → ∃ l : List α, l.length = n ∧ ∀ i v, l[i]? = some v → Q i v := by
  intro n
  induction n with
  | zero => intro _; exact ⟨[], rfl, fun i v h => by simp at h⟩
  | succ n ih =>
    intro h
    obtain ⟨l, hl, hq⟩ := ih (fun i hi => h i (by omega))
    obtain ⟨v, hv⟩ := h n (by omega)
    refine ⟨l ++ [v], by simp [hl], ?_⟩
    intro i u hu
    by_cases hi : i < l.length
    · rw [List.getElem?_append_left hi] at hu
      exact hq i u hu
    · rw [List.getElem?_append_right (by omega)] at hu
      have h0 : i - l.length = 0 := by
        by_cases h0 : i - l.length = 0
        · exact h0
        · rw [List.getElem?_eq_none (by simp; omega)] at hu; cases hu
      rw [h0] at hu
      simp at hu
      subst hu
      have : i = n := by omega
      subst this
      exact hv
theorem Opens.row {α : Type} {d : Kd α} {P : Program} {t e : TypeId} {ok : α → Prop} (h : Opens d P e ok) (hu : P.underlying t = some (.slice e))
    {H : Type} {enc : TypeId × Value → H} {w : World} {base : Nat} {spare : Nat → Bool} {held : Bool} {fuel : Nat} {A : Option Addr} {len cap : Nat} {x : DataW H × List MemPlace}
    (hx : DataW.trod enc P w base spare held fuel t [.slice A len cap] = some x) : ∃ l, l.length = len ∧ d.C w A len l ∧ len ≤ cap ∧ cap ≤ maxLen ∧ ∀ v ∈ l, ok v := by
  rcases DataW.trod_slice hu hx with ⟨hcs, _⟩ | ⟨a, len', cap', elems, rest, n, rfl, hcs, _, hb, hl, hm, hlen, hel, _⟩
  · simp only [List.cons.injEq, Value.slice.injEq, and_true] at hcs
    obtain ⟨rfl, rfl, rfl⟩ := hcs
    exact ⟨[], rfl, ⟨rfl, by omega, fun h => by omega⟩, Nat.le_refl _, by unfold maxLen; omega, fun v hv => by simp at hv⟩
  · simp only [List.cons.injEq, Value.slice.injEq, and_true] at hcs
    obtain ⟨rfl, rfl, rfl⟩ := hcs
    obtain ⟨l, hll, hq⟩ := list_of (Q := fun i v => ∃ cs, w.cells? base (a.add (i * P.cellsOf e)) (P.cellsOf e) = some cs ∧ d.K w v cs ∧ ok v) len (by
      intro i hi
      have h1 := hel i hi
      rw [List.getElem?_eq_getElem (by omega), Option.bind_eq_some_iff] at h1
      obtain ⟨cs, h2, h3⟩ := h1
      obtain ⟨v, h4, h5⟩ := h.opens h3
      exact ⟨v, cs, h2, h4, h5⟩)
    refine ⟨l, hll, ⟨hll, by unfold maxLen at hm; omega, fun _ => ⟨a, rfl, ?_⟩⟩, hl, hm, ?_⟩
    · intro j p hp
      obtain ⟨cs, h2, h4, _⟩ := hq j p hp
      obtain ⟨_, h6, h7⟩ := World.cells?_some h2
      refine ⟨cs, by rw [h6, h.cells], h4, ?_⟩
      intro i u hi
      have hlt : i < P.cellsOf e := by rw [← h6]; exact (List.getElem?_eq_some_iff.1 hi).1
      have h8 := h7 i hlt
      rw [Addr.add_add, h.cells, hi] at h8
      exact h8
    · intro v hv
      obtain ⟨i, hi⟩ := List.getElem?_of_mem hv
      obtain ⟨_, _, _, h5⟩ := hq i v hi
      exact h5
theorem Opens.slice {α : Type} {d : Kd α} {P : Program} {t e : TypeId} {ok : α → Prop} (h : Opens d P e ok) (hu : P.underlying t = some (.slice e)) (hc : P.cellsOf t = 1) : Opens (Kd.slice e d) P t (fun l => l.length ≤ maxLen ∧ ∀ v ∈ l, ok v) := by
  refine ⟨hc, ?_⟩
  intro H enc w base spare held fuel cs x hx
  have hx0 := hx
  rcases DataW.trod_slice hu hx with ⟨hcs, _⟩ | ⟨a, len', cap', elems, rest, n, rfl, hcs, _⟩ <;> subst hcs
  all_goals
    obtain ⟨l, h1, h2, h3, h4, h5⟩ := h.row hu hx0
    have h6 := Nat.le_trans h3 h4
    rw [← h1] at h2 h3 h6 ⊢
    exact ⟨l, ⟨_, _, rfl, h3, h2⟩, h6, h5⟩
theorem Opens.arg {α : Type} {d : Kd α} {P : Program} {t e : TypeId} {ok : α → Prop} (h : Opens d P e ok) (hu : P.underlying t = some (.slice e)) {B : Nat} (hB : P.bytesOf e = B)
    {H : Type} {enc : TypeId × Value → H} {w : World} {base : Nat} {spare : Nat → Bool} {held : Bool} {a : Option Addr} {len cap : Nat} {x : DataW H} {ps : List MemPlace} {ts : List TypeId} {ds : List (DataW H)} {j : Nat}
    (hsz : (DataW.weightsEach P ts ds).all (· ≤ reachBytes) = true) (ht : ts[j]? = some t) (hd : ds[j]? = some x)
    (hx : DataW.Trod enc P w base spare held t (.slice a len cap) x ps) : ∃ l, l.length = len ∧ d.C w a len l ∧ len ≤ cap ∧ (len ≤ maxLen ∧ len * B ≤ 140737488351232) ∧ ∀ v ∈ l, ok v := by
  obtain ⟨fuel, hf⟩ := hx
  have hf' : DataW.trod enc P w base spare held fuel t [.slice a len cap] = some (x, ps) := hf
  obtain ⟨l, h1, h2, h3, h4, h5⟩ := h.row hu hf'
  refine ⟨l, h1, h2, h3, ⟨Nat.le_trans h3 h4, ?_⟩, h5⟩
  rcases DataW.trod_slice hu hf' with ⟨hcs, _⟩ | ⟨a', len', cap', elems, rest, n, _, hcs, hxx, _, hl, _, hlen, _⟩
  · simp only [List.cons.injEq, Value.slice.injEq, and_true] at hcs
    obtain ⟨_, rfl, _⟩ := hcs
    omega
  · simp only [List.cons.injEq, Value.slice.injEq, and_true] at hcs
    obtain ⟨_, rfl, _⟩ := hcs
    obtain ⟨rfl, _⟩ := Prod.mk.inj hxx
    have z := sized_slice hsz ht hd hu
    rw [hB] at z
    have : len ≤ (elems.map (·.1)).length + (rest.map (·.1)).length := by simp; omega
    exact Nat.le_trans (Nat.mul_le_mul_right _ this) z
theorem Opens.agg {α : Type} {d : Kd α} {P : Program} {t : TypeId} {ok : α → Prop} (h : Opens d P t ok) {fs : Array Field} (hu : P.underlying t = some (.struct fs))
    {H : Type} {enc : TypeId × Value → H} {w : World} {r : Reach} {base b0 : Nat} {spare : Nat → Bool} {held : Bool} {v : Value} {x : DataW H} {ps : List MemPlace}
    (hv : Value.okWide P w r b0 t v) (hx : DataW.Trod enc P w base spare held t v x ps) : ∃ u cs, v = .agg ⟨cs⟩ ∧ d.K w u cs ∧ ok u := by
  obtain ⟨cs, rfl, _⟩ := Go.WideShapes.okWide_struct hu hv
  obtain ⟨fuel, hf⟩ := hx
  obtain ⟨u, h1, h2⟩ := h.opens hf
  exact ⟨u, cs.toList, rfl, h1, h2⟩
end Go.Proofs.YtaopajmpifenoaaDoor.P
end
section
namespace Go.Proofs.YtaopajmpifenoaaDoor.P
open Go.RowKit Go.Proofs.YtaopajmpifenoaaDoorW.PrintWords Go.Proofs.YtaopajmpifenoaaDoorW.PrintLast Go.Proofs.YtaopajmpifenoaaDoorW.PrintMore
theorem o3 : Opens (Kd.int .i64) Tryd.prog 3 (fun x => (Lit.int .i64 x).wf = true) := Opens.int Tryd.underlying3 (by kernel_rfl)
theorem o9 : Opens Kd.string Tryd.prog 9 (fun x => x.size ≤ maxLen) := Opens.string Tryd.underlying9 (by kernel_rfl)
def ok44 (x : S44) : Prop := (Lit.int .i64 x.f0).wf = true ∧ (Lit.int .i64 x.f1).wf = true ∧ x.f2.size ≤ maxLen
theorem o44 : Opens k44 Tryd.prog 44 ok44 := by
  have h1 := Opens.struct (d := (Kd.pair (Kd.int .i64) (Kd.pair (Kd.int .i64) Kd.string))) (ok := fun a => (Lit.int .i64 a.1).wf = true ∧ (Lit.int .i64 a.2.1).wf = true ∧ a.2.2.size ≤ maxLen) Tryd.underlying44 (by kernel_rfl) (OpensFs.cons (ok2 := fun a : (Int) × (Int) × (ByteArray) => (Lit.int .i64 a.1).wf = true ∧ (Lit.int .i64 a.2.1).wf = true ∧ a.2.2.size ≤ maxLen) (ok' := fun a : (Int) × (ByteArray) => (Lit.int .i64 a.1).wf = true ∧ a.2.size ≤ maxLen) (by rfl) o3 (OpensFs.cons (ok2 := fun a : (Int) × (ByteArray) => (Lit.int .i64 a.1).wf = true ∧ a.2.size ≤ maxLen) (ok' := fun a : (ByteArray) => a.size ≤ maxLen) (by rfl) o3 (OpensFs.one (by rfl) o9) (fun v h1 h2 => ⟨h1, h2⟩)) (fun v h1 h2 => ⟨h1, h2⟩))
  exact Opens.mono (Opens.iso (fun a => ⟨a.1, a.2.1, a.2.2⟩) (fun _ => rfl) h1) (fun _ h => h)
theorem kc44 {w : World} {v : S44} {cs : List Value} (h : k44.K w v cs) : cs = [.int .i64 v.f0, .int .i64 v.f1, .string v.f2] := by
  have h0 : ((Kd.pair (Kd.int .i64) (Kd.pair (Kd.int .i64) Kd.string))).K w (v.f0, v.f1, v.f2) cs := h
  obtain ⟨c0, d0, rfl, g0, h1⟩ := h0
  obtain rfl := g0
  obtain ⟨c1, d1, rfl, g1, h2⟩ := h1
  obtain rfl := g1
  obtain rfl := h2
  exact rfl
theorem o22 : Opens (Kd.slice 44 k44) Tryd.prog 22 (fun x => (x.length ≤ maxLen ∧ ∀ v ∈ x, ok44 v)) := Opens.slice o44 Tryd.underlying22 (by kernel_rfl)
def ok24 (x : S24) : Prop := x.f0.size ≤ maxLen ∧ (x.f1.length ≤ maxLen ∧ ∀ v ∈ x.f1, ok44 v)
theorem o24 : Opens k24 Tryd.prog 24 ok24 := by
  have h1 := Opens.struct (d := (Kd.pair Kd.string (Kd.slice 44 k44))) (ok := fun a => a.1.size ≤ maxLen ∧ (a.2.length ≤ maxLen ∧ ∀ v ∈ a.2, ok44 v)) Tryd.underlying24 (by kernel_rfl) (OpensFs.cons (ok2 := fun a : (ByteArray) × (List (S44)) => a.1.size ≤ maxLen ∧ (a.2.length ≤ maxLen ∧ ∀ v ∈ a.2, ok44 v)) (ok' := fun a : (List (S44)) => (a.length ≤ maxLen ∧ ∀ v ∈ a, ok44 v)) (by rfl) o9 (OpensFs.one (by rfl) o22) (fun v h1 h2 => ⟨h1, h2⟩))
  exact Opens.mono (Opens.iso (fun a => ⟨a.1, a.2⟩) (fun _ => rfl) h1) (fun _ h => h)
theorem kc24 {w : World} {v : S24} {cs : List Value} (h : k24.K w v cs) : ∃ A0 c0, cs = [.string v.f0, .slice A0 v.f1.length c0] ∧ v.f1.length ≤ c0 ∧ Kd.C k44 w A0 v.f1.length v.f1 := by
  have h0 : ((Kd.pair Kd.string (Kd.slice 44 k44))).K w (v.f0, v.f1) cs := h
  obtain ⟨c0, d0, rfl, g0, h1⟩ := h0
  obtain rfl := g0
  obtain ⟨B1, e1, rfl, l1, r1⟩ := h1
  exact ⟨B1, e1, rfl, l1, r1⟩
end Go.Proofs.YtaopajmpifenoaaDoor.P
end
section
namespace Go.Proofs.YtaopajmpifenoaaDoor.P
open Go.RowKit Go.Proofs.YtaopajmpifenoaaDoorW.PrintWords Go.Proofs.YtaopajmpifenoaaDoorW.PrintLast Go.Proofs.YtaopajmpifenoaaDoorW.PrintMore
def unq : List Int → Option (List Int × List Int)
  | [] => none
  | [c] => if c = 34 then some ([], []) else none
  | c :: d :: r => if c = 34 then some ([], d :: r) else if c = 92 then (if d = 34 ∨ d = 92 then (unq r).map fun p => (d :: p.1, p.2) else none) else (unq (d :: r)).map fun p => (c :: p.1, p.2)
theorem unq_plain {c : Int} (h1 : ¬ c = 34) (h2 : ¬ c = 92) (m : List Int) : unq (c :: m) = (unq m).map fun p => (c :: p.1, p.2) := by
  cases m with
  | nil => simp [unq, h1]
  | cons d r => simp only [unq, if_neg h1, if_neg h2]
theorem unq_esc : ∀ (l m : List Int), unq (escS l ++ m) = (unq m).map fun p => (l ++ p.1, p.2)
  | [], m => by simp [escS]
  | c :: l, m => by
    unfold escS
    split
    · rename_i h
      have : unq (92 :: c :: (escS l ++ m)) = (unq (escS l ++ m)).map fun p => (c :: p.1, p.2) := by
        simp only [unq]
        rw [if_neg (by decide), if_pos trivial, if_pos h]
      rw [List.cons_append, List.cons_append, this, unq_esc l m, Option.map_map]
      rfl
    · rename_i h
      rw [List.cons_append, unq_plain (fun e => h (.inl e)) (fun e => h (.inr e)), unq_esc l m, Option.map_map]
      rfl
theorem quote_unq {k n : Int} {s : ByteArray} {B : List Int} (hv : valS k n s = true) (h : bytesOf (textS k n s) = 34 :: B) : unq B = some (bytesOf s, []) ∧ (bytesOf s).all plainI = true := by
  by_cases h1 : k = 1
  · exfalso
    subst h1
    obtain ⟨c, l, e, hc, _⟩ := itoa_codes n
    unfold textS at h
    rw [if_pos rfl, e] at h
    injection h with h _
    omega
  · by_cases h2 : k = 2
    · exfalso
      subst h2
      obtain ⟨_, hw⟩ := valS_sym hv
      obtain ⟨_, hf, _⟩ := sym_first hw
      unfold textS at h
      rw [if_neg h1, if_pos rfl] at h
      rw [bt_zero h] at hf
      exact absurd hf (by decide)
    · obtain ⟨_, _, hp, _⟩ := valS_str hv h1 h2
      refine ⟨?_, hp⟩
      unfold textS at h
      rw [if_neg h1, if_neg h2] at h
      have e : bytesOf (quoteS s) = quoteL (bytesOf s) := codes_of_nums (quoteL_byte (byteL_codes s))
      rw [e] at h
      unfold quoteL at h
      injection h with _ h
      rw [← h, unq_esc]
      simp [unq]
theorem none_quote {B : List Int} (hb : ByteL (34 :: B)) (h : ∀ x, x.all plainI = true → ¬ unq B = some (x, [])) : parseS (strOfNums (34 :: B)) = (zE, 7) := by
  rcases parse_fits (s := strOfNums (34 :: B)) with ⟨v, _, hv, ht⟩ | e
  · have := quote_unq hv (by rw [ht, codes_of_nums hb])
    exact absurd this.1 (h _ this.2)
  · exact e
theorem none_open {c : Int} {B : List Int} (hc : ¬ c = 34) (hb : ByteL (c :: (B ++ [34]))) : parseS (strOfNums (c :: (B ++ [34]))) = (zE, 7) := by
  rcases parse_fits (s := strOfNums (c :: (B ++ [34]))) with ⟨v, _, hv, ht⟩ | e
  · exfalso
    have h := congrArg bytesOf ht
    rw [codes_of_nums hb] at h
    by_cases h1 : v.f0 = 1
    · rw [h1] at h
      obtain ⟨d, l, e, _, hl⟩ := itoa_codes v.f1
      unfold textS at h
      rw [if_pos rfl, e] at h
      injection h with _ h
      have := hl 34 (by rw [h]; simp)
      omega
    · by_cases h2 : v.f0 = 2
      · rw [h2] at h hv
        obtain ⟨_, hw⟩ := valS_sym hv
        obtain ⟨_, _, hi⟩ := sym_first hw
        unfold textS at h
        rw [if_neg (by decide), if_pos rfl] at h
        rw [h] at hi
        have := List.all_eq_true.1 hi 34 (by simp)
        exact absurd this (by decide)
      · unfold textS at h
        rw [if_neg h1, if_neg h2] at h
        have e : bytesOf (quoteS v.f2) = quoteL (bytesOf v.f2) := codes_of_nums (quoteL_byte (byteL_codes _))
        rw [e] at h
        unfold quoteL at h
        injection h with h _
        exact hc h.symm
  · exact e
theorem esc_first : ∀ {l : List Int} {c : Int} {r : List Int}, escS l = c :: r → ¬ c = 34
  | [], c, r, h => by cases h
  | d :: l, c, r, h => by
    unfold escS at h
    split at h
    · injection h with h _; omega
    · rename_i hn; injection h with h _; rw [← h]; exact fun e => hn (.inl e)
def badL (E : List Int) : List (List Int) := [34 :: E, E ++ [34], 34 :: (E ++ [92, 34]), 34 :: (E ++ [92, 97, 34]), 34 :: (E ++ [1, 34]), 34 :: (E ++ [34, 34]), 34 :: (E ++ [34, 32])]
theorem bad_none {l : List Int} (hl : ByteL l) (i : Nat) (h : i < 7) : parseS (strOfNums ((badL (escS l)).getD i [])) = (zE, 7) := by
  have hE := escS_byte hl
  have tail : ∀ m : List Int, ByteL m → ByteL (34 :: (escS l ++ m)) := fun m hm => byteL_cons (by decide) (byteL_append hE hm)
  have hq : ∀ m : List Int, ByteL m → (∀ x, x.all plainI = true → ¬ unq (escS l ++ m) = some (x, [])) → parseS (strOfNums (34 :: (escS l ++ m))) = (zE, 7) := fun m hm hx => none_quote (tail m hm) hx
  have i0 : i = 0 ∨ i = 1 ∨ i = 2 ∨ i = 3 ∨ i = 4 ∨ i = 5 ∨ i = 6 := by omega
  rcases i0 with rfl | rfl | rfl | rfl | rfl | rfl | rfl
  · have := hq [] (by intro c hc; cases hc) (fun x _ h => by rw [unq_esc] at h; cases h)
    rw [List.append_nil] at this
    exact this
  · show parseS (strOfNums (escS l ++ [34])) = _
    cases e : escS l with
    | nil => exact none_quote (B := []) (by intro c hc; rw [List.mem_singleton.1 hc]; decide) (fun x _ h => by cases h)
    | cons c r =>
      rw [e] at hE
      exact none_open (esc_first e) (by have := byteL_append hE (show ByteL [34] by intro c hc; rw [List.mem_singleton.1 hc]; decide); exact this)
  · exact hq [92, 34] (by unfold ByteL; decide) (fun x _ h => by rw [unq_esc] at h; cases h)
  · exact hq [92, 97, 34] (by unfold ByteL; decide) (fun x _ h => by rw [unq_esc] at h; cases h)
  · refine hq [1, 34] (by unfold ByteL; decide) (fun x hx h => ?_)
    rw [unq_esc] at h
    have h2 : some (l ++ [1], ([] : List Int)) = some (x, []) := h
    injection h2 with h2
    have h3 := congrArg Prod.fst h2
    have h4 : l ++ [1] = x := h3
    rw [← h4] at hx
    have := List.all_eq_true.1 hx 1 (by simp)
    exact absurd this (by decide)
  · refine hq [34, 34] (by unfold ByteL; decide) (fun x hx h => ?_)
    rw [unq_esc] at h
    have h2 : some (l ++ [], ([34] : List Int)) = some (x, []) := h
    injection h2 with h2
    exact absurd (show ([34] : List Int) = [] from congrArg Prod.snd h2) (by decide)
  · refine hq [34, 32] (by unfold ByteL; decide) (fun x hx h => ?_)
    rw [unq_esc] at h
    have h2 : some (l ++ [], ([32] : List Int)) = some (x, []) := h
    injection h2 with h2
    exact absurd (show ([32] : List Int) = [] from congrArg Prod.snd h2) (by decide)
theorem q34 : (⟨#[34]⟩ : ByteArray) = strOfNums [34] := rfl
theorem q92 : (⟨#[92]⟩ : ByteArray) = strOfNums [92] := rfl
theorem q92_34 : (⟨#[92, 34]⟩ : ByteArray) = strOfNums [92, 34] := rfl
theorem q92_97_34 : (⟨#[92, 97, 34]⟩ : ByteArray) = strOfNums [92, 97, 34] := rfl
theorem q1_34 : (⟨#[1, 34]⟩ : ByteArray) = strOfNums [1, 34] := rfl
theorem q34_34 : (⟨#[34, 34]⟩ : ByteArray) = strOfNums [34, 34] := rfl
theorem q34_32 : (⟨#[34, 32]⟩ : ByteArray) = strOfNums [34, 32] := rfl
theorem choice7 (a : Int) : ∃ n : Nat, n < 7 ∧ wrap64 (Int.tmod (IntKind.u64.wrap a) 7) = (n : Int) := by
  rw [IntKind.wrap_u64, Int.tmod_eq_emod_of_nonneg (by omega)]
  exact ⟨(a % 18446744073709551616 % 7).toNat, by omega, by unfold wrap64; omega⟩
theorem str_end (s : ByteArray) (how : Int) (hs : s.size ≤ 60) (hp : (bytesOf s).all plainI = true) :
    Ev (fun k => constablelaw01_ValStrings.l0 k s how (strOfNums (escS (bytesOf s))) s.size) true := by
  have hwk := wakesEnd wakes01_ev
  have hlen := escS_len (bytesOf s)
  rw [len_codes] at hlen
  have hv : valS 3 0 s = true := by
    unfold valS
    rw [if_neg (by decide), if_neg (by decide), if_pos rfl, hp, decide_eq_true hs]
    rfl
  have hq : strOfNums ([34] ++ escS (bytesOf s) ++ [34]) = quoteS s := by unfold quoteS quoteL; simp
  obtain ⟨n, hn, hw⟩ := choice7 how
  have g1 := val_Parse_ev (quoteS s) (by
    have := text_size hv
    have e : textS 3 0 s = quoteS s := rfl
    rw [e] at this; omega)
  have g1p : parseS (quoteS s) = (⟨3, 0, s⟩, 0) := parse_text (v := ⟨3, 0, s⟩) hv
  rw [g1p] at g1
  have g2 := val_Text_ev 3 0 s (by unfold maxLen; omega)
  rw [hv] at g2
  have hbn := bad_none (byteL_codes s) n hn
  have hbs : (strOfNums ((badL (escS (bytesOf s))).getD n [])).size ≤ 1000000 := by
    rw [nums_size]
    have : ∀ m ∈ badL (escS (bytesOf s)), m.length ≤ 200 := by
      intro m hm
      simp only [badL, List.mem_cons, List.not_mem_nil, or_false] at hm
      rcases hm with rfl | rfl | rfl | rfl | rfl | rfl | rfl <;> simp <;> omega
    have hl : n < (badL (escS (bytesOf s))).length := hn
    rw [List.getD_eq_getElem?_getD, List.getElem?_eq_getElem hl]
    exact Nat.le_trans (this _ (List.getElem_mem hl)) (by decide)
  have g3 := val_Parse_ev _ hbs
  rw [hbn] at g3
  refine evShift ?_
  simp only [constablelaw01_ValStrings.l0, q34, q92_34, q92_97_34, q1_34, q34_34, q34_32, nums_append, nums_size, hw, Option.bind_some]
  refine evNeg (by omega) (evPos (by omega) (evPos (by simp; omega) ?_))
  rw [hq]
  refine Ev.bind g1 (Ev.bind g2 (evPos (by omega) (evPos (by simp; omega) (evPos (by simp; omega) (evPos (by omega) (evPos (by simp; omega) ?_))))))
  have hr : rdOf ByteArray.empty [strOfNums ([34] ++ escS (bytesOf s)), strOfNums (escS (bytesOf s) ++ [34]), strOfNums ([34] ++ escS (bytesOf s) ++ [92, 34]), strOfNums ([34] ++ escS (bytesOf s) ++ [92, 97, 34]), strOfNums ([34] ++ escS (bytesOf s) ++ [1, 34]), strOfNums ([34] ++ escS (bytesOf s) ++ [34, 34]), strOfNums ([34] ++ escS (bytesOf s) ++ [34, 32])] (n : Int) = strOfNums ((badL (escS (bytesOf s))).getD n []) := by
    have i0 : n = 0 ∨ n = 1 ∨ n = 2 ∨ n = 3 ∨ n = 4 ∨ n = 5 ∨ n = 6 := by omega
    rcases i0 with rfl | rfl | rfl | rfl | rfl | rfl | rfl <;> rfl
  rw [hr]
  refine Ev.bind g3 ?_
  have j2f : Ev (fun k => constablelaw01_ValStrings.j2 k s (strOfNums (escS (bytesOf s))) 0 (quoteS s) 0 7 false 3 0 s 0 0 ⟨#[]⟩) true := by
    refine evShift ?_
    simp only [constablelaw01_ValStrings.j2, q34, nums_append, nums_size, Bool.false_eq_true, if_false, if_true]
    refine evPos (by omega) (evPos (by simp; omega) ?_)
    rw [hq]
    exact evPos rfl (evPos (by rw [tl_beq_nil]; rfl) hwk)
  have j2a : ∀ b : Bool, Ev (fun k => constablelaw01_ValStrings.j2 k s (strOfNums (escS (bytesOf s))) 0 (quoteS s) 0 7 b 3 0 s 0 0 ⟨#[]⟩) true := by
    intro b
    cases b with
    | false => exact j2f
    | true =>
      refine evShift ?_
      simp only [constablelaw01_ValStrings.j2, if_true]
      exact hwk
  exact evIf (fun _ => evIf (fun h => evPos (by omega) (j2a _)) (fun _ => j2f)) (fun _ => j2f)
theorem str_l0 (s : ByteArray) (how : Int) (hs : s.size ≤ 60) : ∀ (d i : Nat) (x : List Int), i + d = s.size → x.length ≤ 2 * i → x ++ escS ((bytesOf s).drop i) = escS (bytesOf s) →
    (((bytesOf s).drop i).all plainI = true → (bytesOf s).all plainI = true) → Ev (fun k => constablelaw01_ValStrings.l0 k s how (strOfNums x) i) true := by
  intro d
  induction d with
  | zero =>
    intro i x hi hx he hp
    obtain rfl : i = s.size := by omega
    rw [drop_end] at he hp
    have : x = escS (bytesOf s) := by rw [← he]; simp [escS]
    rw [this]
    exact str_end s how hs (hp rfl)
  | succ d ih =>
    intro i x hi hx he hp
    have hlt : i < s.size := by omega
    obtain ⟨c, h1, h2⟩ := codes_split s i hlt
    have w1 : wrap64 ((i : Int) + 1) = ((i + 1 : Nat) : Int) := wrap_succ hlt (by omega)
    have ex := ext_one s i hlt
    rw [h2] at ex
    rw [h1] at he hp
    have stop : Ev (fun k => constablelaw01_ValStrings.j1 k s how (strOfNums x) i true) true := by
      refine evShift ?_
      simp only [constablelaw01_ValStrings.j1, if_true]
      exact evSome rfl
    refine evShift ?_
    simp only [constablelaw01_ValStrings.l0, h2]
    refine evPos (by omega) (evPos (by omega) (evIf (fun _ => stop) (fun l1 => ?_)))
    by_cases l2 : c > 126
    · rw [decide_eq_true l2]; exact stop
    rw [decide_eq_false l2]
    have hp2 : ((bytesOf s).drop (i + 1)).all plainI = true → (bytesOf s).all plainI = true := by
      intro h
      apply hp
      rw [List.all_cons, h, Bool.and_true]
      exact decide_eq_true ⟨by omega, by omega⟩
    refine evShift ?_
    simp only [constablelaw01_ValStrings.j1, q92, Bool.false_eq_true, if_false, h2, w1, Int.toNat_natCast, ex, nums_append, nums_size]
    have two : c = 34 ∨ c = 92 → Ev (fun k => constablelaw01_ValStrings.l0 k s how (strOfNums (x ++ [92] ++ [c])) ((i + 1 : Nat) : Int)) true := by
      intro hc
      refine ih (i + 1) _ (by omega) (by simp; omega) ?_ hp2
      rw [← he]
      simp [escS, hc]
    refine evPos (by omega) (evPos (by omega) (evIf (fun e => evPos (by omega) (evPos (by omega) (evPos (by omega) (evPos (by simp; omega) (two (.inl e)))))) (fun e1 => evIf (fun e => evPos (by omega) (evPos (by omega) (evPos (by omega) (evPos (by simp; omega) (two (.inr e)))))) (fun e2 => evPos (by omega) (evPos (by omega) (evPos (by simp; omega) ?_))))))
    refine ih (i + 1) _ (by omega) (by simp; omega) ?_ hp2
    rw [← he]
    have : ¬ (c = 34 ∨ c = 92) := fun h => h.elim e1 e2
    simp [escS, this]
end Go.Proofs.YtaopajmpifenoaaDoor.P
namespace Go.Proofs.YtaopajmpifenoaaDoor.Pure
open Go.RowKit Go.Proofs.YtaopajmpifenoaaDoor.P Go.Proofs.YtaopajmpifenoaaDoorW.PrintWords Go.Proofs.YtaopajmpifenoaaDoorW.PrintLast Go.Proofs.YtaopajmpifenoaaDoorW.PrintMore
theorem ValStrings (s : ByteArray) (how : Int) (_w0 : s.size ≤ 140737488351232) (_w1 : (Lit.int .i64 how).wf = true) : ∃ k, constablelaw01_ValStrings.f k s how = some true := by
  refine Ev.rounds (r := true) ?_
  unfold constablelaw01_ValStrings.f
  refine evIf (fun _ => evSome rfl) (fun h => ?_)
  exact str_l0 s how (by omega) s.size 0 [] (by omega) (by simp) (by simp) (by simp)
end Go.Proofs.YtaopajmpifenoaaDoor.Pure
end
section
namespace Go.Proofs.YtaopajmpifenoaaDoor.P
open Go.RowKit Go.Lib
theorem pow_datum : (Rows.laid_internal_strconv_uint64pow10 : DataW Unit) = Lib.tabData .u64 Lib.pow10Tab := by kernel_rfl
theorem laidT_of {r : List (String × DataW Unit)} {W : World} (h : laidMet Tryd.prog (("internal/strconv.uint64pow10", Rows.laid_internal_strconv_uint64pow10) :: r) W) : LaidT W := by
  rw [pow_datum] at h
  exact tabIs_of_head (g := 3) (by kernel_rfl) (by kernel_rfl) Tryd.underlying115 Tryd.underlying103 (by kernel_rfl) (by kernel_rfl) h
theorem star_es : "*" ++ "errors.errorString" = "*errors.errorString" := by decide
theorem row_es (u : TypeId) (h : Tryd.prog.typeName? 3 u = some "*errors.errorString") : u = 120 :=
  typeName_ptr_named (nm := "errors.errorString") (by rw [star_es]; kernel_rfl) (by kernel_rfl) (by decide) u (by rw [star_es]; exact h)
theorem globRan_of {r : List (String × DataW Unit)} {W : World} (h : laidMet Tryd.prog (("strconv.ErrRange", Rows.laid_strconv_ErrRange) :: r) W) : ∃ tp p, W.var? Tryd.prog "strconv.ErrRange" = some #[.iface tp p] := by
  obtain ⟨a, s, hv, _⟩ := laid_sentinel (g := 2) h (by kernel_rfl) (by kernel_rfl) Tryd.underlying72 row_es Tryd.underlying120 Tryd.underlying122 rfl rfl Tryd.underlying9 (by kernel_rfl) (by kernel_rfl)
  exact ⟨_, _, hv⟩
theorem globSyn_of {r : List (String × DataW Unit)} {W : World} (h : laidMet Tryd.prog (("strconv.ErrSyntax", Rows.laid_strconv_ErrSyntax) :: r) W) : ∃ tp p, W.var? Tryd.prog "strconv.ErrSyntax" = some #[.iface tp p] := by
  obtain ⟨a, s, hv, _⟩ := laid_sentinel (g := 1) h (by kernel_rfl) (by kernel_rfl) Tryd.underlying72 row_es Tryd.underlying120 Tryd.underlying122 rfl rfl Tryd.underlying9 (by kernel_rfl) (by kernel_rfl)
  exact ⟨_, _, hv⟩
end Go.Proofs.YtaopajmpifenoaaDoor.P
end
