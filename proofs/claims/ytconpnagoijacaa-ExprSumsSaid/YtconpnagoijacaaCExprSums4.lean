/- Part 5 of the proof of ExprSums: words, contracts of functions of the program (what a call answers), and what the answers say. -/
import Derived.Lib.Bytes
import Derived.Laws.BitsLemmas
import Derived.Laws.Bits64
import Derived.ChangeArms
import Derived.DataElems
import Derived.DataReads
import Derived.SizedLaws
import Derived.ChangeSlices
import Derived.RowKit
import Derived.WideShapes
import Derived.ChangeShapes
import Derived.KernelRfl
import Derived.Test.YtconpnagoijacaaVWords
import Derived.Test.YtconpnagoijacaaVLast
import Derived.Test.YtconpnagoijacaaVApart
import Derived.Test.YtconpnagoijacaaVArr
import Derived.Test.YtconpnagoijacaaVFoot
import Derived.Test.YtconpnagoijacaaVKept
import Derived.Test.YtconpnagoijacaaVShare
import Derived.Test.YtconpnagoijacaaVZeros
import Derived.Test.YtconpnagoijacaaVN
import Derived.Test.YtconpnagoijacaaVFootNe
import Derived.Test.YtconpnagoijacaaVAt
import Derived.Test.YtconpnagoijacaaVEqStruct
import Derived.Test.YtconpnagoijacaaVTab
import Derived.Test.YtconpnagoijacaaVFour
import Derived.Test.YtconpnagoijacaaVGuard
import Derived.Test.YtconpnagoijacaaVInv
import Derived.Test.YtconpnagoijacaaVInvWords
import Derived.Test.YtconpnagoijacaaVQPut
import Derived.Test.YtconpnagoijacaaVNEv
import Derived.Test.YtconpnagoijacaaVMore
import Derived.Test.YtconpnagoijacaaVRepsOne
import Derived.Test.YtconpnagoijacaaVSized
import Derived.Test.YtconpnagoijacaaCExprSums0
import Derived.Test.YtconpnagoijacaaCExprSums1
import Derived.Test.YtconpnagoijacaaCExprSums2
import Derived.Test.YtconpnagoijacaaCExprSums3
section
namespace Go.Proofs.Ytconpnagoijacaa.P
open Go.RowKit Go.Proofs.YtconpnagoijacaaW.PrintWords Go.Proofs.YtconpnagoijacaaW.PrintLast Go.Proofs.YtconpnagoijacaaW.PrintMore
attribute [local go_sem] max2_int min2_int max_two min_two max_three min_three max_four min_four
set_option linter.unusedVariables false
set_option linter.unusedSimpArgs false
def constablelaw05_Heavy.l0 : Nat → List (S62) → Int → Option (Bool)
  | 0, _, _ => none
  | k + 1, x0, x3 => if x3 < (x0.length : Int) then (if 0 ≤ x3 then (if (((rd_T62 x0 x3).f0).size : Int) > 200 then (some true) else (if (((rd_T62 x0 x3).f1.f2).size : Int) > 200 then (some true) else (constablelaw05_Heavy.l0 k x0 (wrap64 (x3 + 1))))) else (none)) else (some false)
def constablelaw05_Heavy.f (k : Nat) (l0 : List (S62)) : Option (Bool) := if (l0.length : Int) > 110 then (some true) else (constablelaw05_Heavy.l0 k l0 0)
theorem constablelaw05_Heavy.mono_l : ∀ k, (∀ y0 y1, LeO (constablelaw05_Heavy.l0 k y0 y1) (constablelaw05_Heavy.l0 (k + 1) y0 y1))
  | 0 => fun _ _ r h => by simp [constablelaw05_Heavy.l0] at h
  | k + 1 => by
    have ih0 := constablelaw05_Heavy.mono_l k
    · intro y0 y1
      unfold constablelaw05_Heavy.l0
      repeat' first
      | (with_reducible exact ih0 _ _)
      | (with_reducible exact LeO.refl _)
      | (with_reducible exact LeO.none _)
      | (with_reducible refine LeO.ite ?_ ?_)
      | (with_reducible refine LeO.bind ?_ (fun _ => ?_))
      | exact ih0 _ _
      | exact LeO.none _
      | refine LeO.ite ?_ ?_
      | refine LeO.bind ?_ (fun _ => ?_)
theorem constablelaw05_Heavy.mono : ∀ a0 k, LeO (constablelaw05_Heavy.f k a0) (constablelaw05_Heavy.f (k + 1) a0) := by
  intro a0 k
  have ih0 := constablelaw05_Heavy.mono_l k
  unfold constablelaw05_Heavy.f
  repeat' first
      | (with_reducible exact ih0 _ _)
      | (with_reducible exact LeO.refl _)
      | (with_reducible exact LeO.none _)
      | (with_reducible refine LeO.ite ?_ ?_)
      | (with_reducible refine LeO.bind ?_ (fun _ => ?_))
      | exact ih0 _ _
      | exact LeO.none _
      | refine LeO.ite ?_ ?_
      | refine LeO.bind ?_ (fun _ => ?_)
set_option maxHeartbeats 8000000 in
set_option maxRecDepth 100000 in
theorem constablelaw05_Heavy.calls (k : Nat) (A0 : Option Addr) (c0 : Nat) (l0 : List (S62)) (r : Bool) (w : World) (hr0 : Kd.C k62 w A0 l0.length l0) (hc0 : l0.length ≤ c0) (h : constablelaw05_Heavy.f k l0 = some r) :
    Calls Try.prog 18 #[.slice A0 l0.length c0] w fun e w' => e = .returned (.bool r) ∧ Drawn0 w w' := by
  have HR0 := Aside0.mk hr0
  have HC0 := Aside0.mk hc0
  clear hr0 hc0
  have H : (if (l0.length : Int) > 110 then (some true) else (constablelaw05_Heavy.l0 k l0 0)) = some r := h
  clear h
  by_cases c2 : (l0.length : Int) > 110
  · rw [if_pos c2] at H
    have c2b0 : decide (110 < (l0.length : Int)) = true := decide_eq_true c2
    have c2b1 : decide (110 < l0.length) = true := decide_eq_true (by omega)
    clear c2
    obtain rfl := Option.some.inj H
    go_enter Try.func18, Try.ntmps18
    go_wp2
    go_ret
    exact rz_
  · rw [if_neg c2] at H
    have c2b0 : decide (110 < (l0.length : Int)) = false := decide_eq_false c2
    have c2b1 : decide (110 < l0.length) = false := decide_eq_false (by omega)
    clear c2
    have H' := Aside0.mk H
    clear H
    go_enter Try.func18, Try.ntmps18
    go_wp2
    go_loopg [3] k (fun kq v3 w' => ∃ (x3_1 : Int), v3 = .int .i64 x3_1 ∧ Aside0 (constablelaw05_Heavy.l0 kq l0 x3_1 = some r) ∧ Aside0 (kq ≤ k) ∧ Drawn0 w w')
    case atStart => exact ⟨(0), ra_, H', ⟨Nat.le_refl _⟩, dz_⟩
    case round =>
      clear H'
      try clear c1
      try clear c2
      try clear c2b0
      try clear c2b1
      try clear p2
      obtain ⟨x3_1, rfl, HA, HK1, ⟨m1, rfl⟩⟩ := hrel
      cases gk with
      | zero => exact absurd HA.out (by simp [constablelaw05_Heavy.l0])
      | succ k1 =>
        have H := HA.out
        clear HA
        simp only [constablelaw05_Heavy.l0] at H
        by_cases c3 : x3_1 < (l0.length : Int)
        · rw [if_pos c3] at H
          have c3b0 : decide (x3_1 < (l0.length : Int)) = true := decide_eq_true c3
          clear c3
          by_cases c4 : 0 ≤ x3_1
          · rw [if_pos c4] at H
            have c4b0 : decide (0 ≤ x3_1) = true := decide_eq_true c4
            clear c4
            by_cases c5 : (((rd_T62 l0 x3_1).f0).size : Int) > 200
            · rw [if_pos c5] at H
              have c5b0 : decide (200 < (((rd_T62 l0 x3_1).f0).size : Int)) = true := decide_eq_true c5
              have c5b1 : decide (200 < ((rd_T62 l0 x3_1).f0).size) = true := decide_eq_true (by omega)
              clear c5
              obtain rfl := Option.some.inj H
              have p202 : 0 ≤ (x3_1 : Int) := dt_
              have q202 : x3_1 < (l0.length : Int) := dt_
              obtain ⟨ad202, e202, hx202_0, hx202_1, hx202_2, hx202_3⟩ := at_T62 HR0.out x3_1 p202 q202
              cases e202
              replace p202 := eq_true p202
              replace q202 := eq_true q202
              go_wp2
              go_ret
              exact rz_
            · rw [if_neg c5] at H
              have c5b0 : decide (200 < (((rd_T62 l0 x3_1).f0).size : Int)) = false := decide_eq_false c5
              have c5b1 : decide (200 < ((rd_T62 l0 x3_1).f0).size) = false := decide_eq_false (by omega)
              clear c5
              by_cases c6 : (((rd_T62 l0 x3_1).f1.f2).size : Int) > 200
              · rw [if_pos c6] at H
                have c6b0 : decide (200 < (((rd_T62 l0 x3_1).f1.f2).size : Int)) = true := decide_eq_true c6
                have c6b1 : decide (200 < ((rd_T62 l0 x3_1).f1.f2).size) = true := decide_eq_true (by omega)
                clear c6
                obtain rfl := Option.some.inj H
                have p202 : 0 ≤ (x3_1 : Int) := dt_
                have q202 : x3_1 < (l0.length : Int) := dt_
                obtain ⟨ad202, e202, hx202_0, hx202_1, hx202_2, hx202_3⟩ := at_T62 HR0.out x3_1 p202 q202
                cases e202
                replace p202 := eq_true p202
                replace q202 := eq_true q202
                have p203 : 0 ≤ (x3_1 : Int) := dt_
                have q203 : x3_1 < (l0.length : Int) := dt_
                obtain ⟨ad203, e203, hx203_0, hx203_1, hx203_2, hx203_3⟩ := at_T62 HR0.out x3_1 p203 q203
                obtain rfl : ad202 = ad203 := (by injection e203)
                replace p203 := eq_true p203
                replace q203 := eq_true q203
                go_wp2
                go_ret
                exact rz_
              · rw [if_neg c6] at H
                have c6b0 : decide (200 < (((rd_T62 l0 x3_1).f1.f2).size : Int)) = false := decide_eq_false c6
                have c6b1 : decide (200 < ((rd_T62 l0 x3_1).f1.f2).size) = false := decide_eq_false (by omega)
                clear c6
                have H' := Aside0.mk H
                clear H
                have p202 : 0 ≤ (x3_1 : Int) := dt_
                have q202 : x3_1 < (l0.length : Int) := dt_
                obtain ⟨ad202, e202, hx202_0, hx202_1, hx202_2, hx202_3⟩ := at_T62 HR0.out x3_1 p202 q202
                cases e202
                replace p202 := eq_true p202
                replace q202 := eq_true q202
                have p203 : 0 ≤ (x3_1 : Int) := dt_
                have q203 : x3_1 < (l0.length : Int) := dt_
                obtain ⟨ad203, e203, hx203_0, hx203_1, hx203_2, hx203_3⟩ := at_T62 HR0.out x3_1 p203 q203
                obtain rfl : ad202 = ad203 := (by injection e203)
                replace p203 := eq_true p203
                replace q203 := eq_true q203
                go_wp2
                go_roundg k1
                case measure => have := HK1.out; omega
                case rel => exact ⟨(wrap64 (x3_1 + 1)), ra_, H', ⟨by have := HK1.out; omega⟩, dz_⟩
          · rw [if_neg c4] at H
            exact absurd H (by simp)
        · rw [if_neg c3] at H
          have c3b0 : decide (x3_1 < (l0.length : Int)) = false := decide_eq_false c3
          clear c3
          obtain rfl := Option.some.inj H
          go_wp2
          go_ret
          exact rz_
end Go.Proofs.Ytconpnagoijacaa.P
end
section
namespace Go.Proofs.Ytconpnagoijacaa.P
open Go.RowKit Go.Proofs.YtconpnagoijacaaW.PrintWords Go.Proofs.YtconpnagoijacaaW.PrintLast Go.Proofs.YtconpnagoijacaaW.PrintMore
theorem evPos {α : Type} {c : Prop} [Decidable c] {f g : Nat → Option α} {r : α} (h : c) (k : Ev f r) : Ev (fun n => if c then f n else g n) r := Ev.congr (fun _ => if_pos h) k
theorem evNeg {α : Type} {c : Prop} [Decidable c] {f g : Nat → Option α} {r : α} (h : ¬ c) (k : Ev g r) : Ev (fun n => if c then f n else g n) r := Ev.congr (fun _ => if_neg h) k
theorem evSome {α : Type} {a r : α} (h : a = r) : Ev (fun _ => some a) r := ⟨0, fun _ _ => by rw [h]⟩
theorem evShift {α : Type} {g : Nat → Option α} {r : α} (k : Ev (fun n => g (n + 1)) r) : Ev g r := Ev.step (fun _ => rfl) k
theorem evBind0 {α β : Type} {g : Option α} {f : Nat → α → Option β} {a : α} {r : β} (h : g = some a) (k : Ev (fun n => f n a) r) : Ev (fun n => g.bind (f n)) r := by subst h; exact k
theorem evCond {α : Type} {b : Bool} {f g : Nat → Option α} {r : α} (h1 : b = true → Ev f r) (h2 : b = false → Ev g r) : Ev (fun n => if b = true then f n else g n) r := by
  cases b with
  | true => exact evPos rfl (h1 rfl)
  | false => exact evNeg (by decide) (h2 rfl)
theorem evIf {α : Type} {c : Prop} [Decidable c] {f g : Nat → Option α} {r : α} (h1 : c → Ev f r) (h2 : ¬ c → Ev g r) : Ev (fun n => if c then f n else g n) r := by
  by_cases h : c
  · exact evPos h (h1 h)
  · exact evNeg h (h2 h)
end Go.Proofs.Ytconpnagoijacaa.P
end
section
namespace Go.Proofs.Ytconpnagoijacaa.P
open Go.RowKit Go.Proofs.YtconpnagoijacaaW.PrintWords Go.Proofs.YtconpnagoijacaaW.PrintLast Go.Proofs.YtconpnagoijacaaW.PrintMore
theorem len_codes (s : ByteArray) : (bytesOf s).length = s.size := by simp [bytesOf]
theorem bt_codes (s : ByteArray) (i : Int) : bt s i = rd (bytesOf s) i := (rd_bytesOf s i).symm
theorem codes_inj {s t : ByteArray} (h : bytesOf s = bytesOf t) : s = t := by
  have h2 : s.data.toList = t.data.toList := by
    unfold bytesOf at h
    have inj : ∀ (a b : List UInt8), a.map (fun b => ((b.toNat : Nat) : Int)) = b.map (fun b => ((b.toNat : Nat) : Int)) → a = b := by
      intro a
      induction a with
      | nil => intro b hb; cases b with
        | nil => rfl
        | cons y b => simp at hb
      | cons x a ih => intro b hb; cases b with
        | nil => simp at hb
        | cons y b =>
          simp only [List.map_cons, List.cons.injEq] at hb
          have e : x = y := UInt8.toNat_inj.1 (by omega)
          rw [e, ih b hb.2]
    exact inj _ _ h
  cases s with | mk a => cases t with | mk b => cases a; cases b; simp at h2; rw [h2]
theorem tl_data (s : ByteArray) : s.toList = s.data.toList := Lib.toList_data s
theorem tl_inj {s t : ByteArray} : s.toList = t.toList ↔ s = t := by
  constructor
  · intro h
    rw [tl_data, tl_data] at h
    exact codes_inj (by unfold bytesOf; rw [h])
  · intro h; rw [h]
theorem tl_beq (s t : ByteArray) : (s.toList == t.toList) = decide (s = t) := by
  rw [Bool.eq_iff_iff, beq_iff_eq, decide_eq_true_eq, tl_inj]
theorem tl_nil {s : ByteArray} : s.toList = [] ↔ s = ⟨#[]⟩ := by
  rw [← tl_inj]
  have : (⟨#[]⟩ : ByteArray).toList = [] := by rw [tl_data]
  rw [this]
theorem tl_beq_nil (s : ByteArray) : (s.toList == ([] : List UInt8)) = decide (s = ⟨#[]⟩) := by
  rw [Bool.eq_iff_iff, beq_iff_eq, decide_eq_true_eq, tl_nil]
theorem size_zero {s : ByteArray} : s.size = 0 ↔ s = ⟨#[]⟩ := by
  constructor
  · intro h
    apply codes_inj
    have : (bytesOf s).length = 0 := by rw [len_codes]; exact h
    rw [List.eq_nil_of_length_eq_zero this]; rfl
  · intro h; rw [h]; rfl
theorem rd_mid {p : List Int} {x : Int} {l : List Int} : rd (p ++ x :: l) p.length = x := by simp [rd, List.getD_eq_getElem?_getD]
theorem codes_split (s : ByteArray) (i : Nat) (h : i < s.size) : ∃ x, (bytesOf s).drop i = x :: (bytesOf s).drop (i + 1) ∧ bt s i = x := by
  have hl : i < (bytesOf s).length := by rw [len_codes]; exact h
  refine ⟨(bytesOf s)[i], ?_, ?_⟩
  · exact List.drop_eq_getElem_cons hl
  · rw [bt_codes]
    simp [rd, List.getD_eq_getElem?_getD, hl]
theorem back_ind {ρ : Type} (n : Nat) (l : Nat → Int → Option ρ) (spec : Nat → ρ) (hend : Ev (fun k => l k n) (spec n))
    (hstep : ∀ i : Nat, i < n → Ev (fun k => l k ((i + 1 : Nat) : Int)) (spec (i + 1)) → Ev (fun k => l k i) (spec i)) : ∀ i : Nat, i ≤ n → Ev (fun k => l k i) (spec i) := by
  intro i hi
  obtain ⟨d, rfl⟩ : ∃ d, n = i + d := ⟨n - i, by omega⟩
  induction d generalizing i with
  | zero => exact hend
  | succ d ih =>
    refine hstep i (by omega) ?_
    have := ih (i + 1) (by rw [show i + 1 + d = i + (d + 1) by omega]; exact hend) (fun j hj => hstep j (by omega)) (by omega)
    exact this
theorem wrap_succ {i n : Nat} (h : i < n) (hn : n ≤ 9223372036854775807) : wrap64 ((i : Int) + 1) = ((i + 1 : Nat) : Int) := by unfold wrap64; omega
theorem rdOf_nth {α : Type} (d : α) (l : List α) (i : Nat) (h : i < l.length) : rdOf d l i = l[i] := by simp [rdOf, List.getD_eq_getElem?_getD, h]
end Go.Proofs.Ytconpnagoijacaa.P
end
section
namespace Go.Proofs.Ytconpnagoijacaa.P
open Go.RowKit Go.Proofs.YtconpnagoijacaaW.PrintWords Go.Proofs.YtconpnagoijacaaW.PrintLast Go.Proofs.YtconpnagoijacaaW.PrintMore
def InB (a : Int) : Prop := -4611686018427387904 ≤ a ∧ a ≤ 4611686018427387904
instance (a : Int) : Decidable (InB a) := inferInstanceAs (Decidable (_ ∧ _))
def doS (kind a b : Int) : Int × Int :=
  if kind = 3 ∨ kind = 4 ∨ kind = 5 then
    if InB a ∧ InB b then
      if InB (if kind = 3 then a + b else if kind = 4 then a - b else a * b) then (if kind = 3 then a + b else if kind = 4 then a - b else a * b, 0) else (0, 4)
    else (0, 4)
  else (0, 3)
theorem InB_iff (a : Int) : InB a ↔ -4611686018427387904 ≤ a ∧ a ≤ 4611686018427387904 := Iff.rfl
theorem num_in_eq (a : Int) : num_in.f a = some (decide (InB a)) := by
  unfold num_in.f
  split
  · congr 1; rw [decide_eq_decide, InB_iff]; omega
  · congr 1; symm; rw [decide_eq_false_iff_not, InB_iff]; omega
theorem num_add_eq {a b : Int} (ha : InB a) (hb : InB b) : num_add.f a b = some (if InB (a + b) then (a + b, true) else (0, false)) := by
  rw [InB_iff] at ha hb
  unfold num_add.f wrap64
  split
  · split
    · rw [if_neg (by rw [InB_iff]; omega)]
    · rw [if_neg (by omega), if_pos (by rw [InB_iff]; omega)]; congr 2; omega
  · split
    · split
      · rw [if_neg (by rw [InB_iff]; omega)]
      · rw [if_pos (by rw [InB_iff]; omega)]; congr 2; omega
    · rw [if_pos (by rw [InB_iff]; omega)]; congr 2; omega
theorem num_size_eq {a : Int} (ha : InB a) : num_size.f a = some (if a < 0 then -a else a) := by
  rw [InB_iff] at ha
  unfold num_size.f wrap64
  split <;> (congr 1; rw [IntKind.wrap_u64]; omega)
theorem and_low {a : Int} (h0 : 0 ≤ a) (h1 : a < 18446744073709551616) : Go.bits .and .u64 a 4294967295 = a % 4294967296 :=
  bits_mask .u64 64 (by decide) (fun n h0 h1 => by rw [IntKind.wrap_u64]; omega) 32 (by decide) a h0 h1
theorem mul_parts (a b : Int) : a * b = (a / 4294967296) * (b / 4294967296) * 18446744073709551616 + ((a / 4294967296) * (b % 4294967296) + (a % 4294967296) * (b / 4294967296)) * 4294967296 + (a % 4294967296) * (b % 4294967296) := by
  have ha : a = 4294967296 * (a / 4294967296) + a % 4294967296 := by omega
  have hb : b = 4294967296 * (b / 4294967296) + b % 4294967296 := by omega
  generalize a / 4294967296 = x at *
  generalize a % 4294967296 = y at *
  generalize b / 4294967296 = z at *
  generalize b % 4294967296 = t at *
  subst ha hb
  grind
theorem mul_le2 {a b m n : Int} (h0 : 0 ≤ a) (h1 : a ≤ m) (h2 : 0 ≤ b) (h3 : b ≤ n) : 0 ≤ a * b ∧ a * b ≤ m * n :=
  ⟨Int.mul_nonneg h0 h2, Int.mul_le_mul h1 h3 h2 (by omega)⟩
theorem bits_Mul64_eq {a b : Int} (ha : 0 ≤ a) (ha' : a ≤ 4611686018427387904) (hb : 0 ≤ b) (hb' : b ≤ 4611686018427387904) :
    bits_Mul64.f a b = some (a * b / 18446744073709551616, a * b % 18446744073709551616) := by
  unfold bits_Mul64.f
  simp only [and_low ha (by omega), and_low hb (by omega)]
  obtain ⟨p0, p1⟩ := mul_le2 (a := a / 4294967296) (m := 1073741824) (b := b / 4294967296) (n := 1073741824) (by omega) (by omega) (by omega) (by omega)
  obtain ⟨q0, q1⟩ := mul_le2 (a := a / 4294967296) (m := 1073741824) (b := b % 4294967296) (n := 4294967295) (by omega) (by omega) (by omega) (by omega)
  obtain ⟨r0, r1⟩ := mul_le2 (a := a % 4294967296) (m := 4294967295) (b := b / 4294967296) (n := 1073741824) (by omega) (by omega) (by omega) (by omega)
  obtain ⟨s0, s1⟩ := mul_le2 (a := a % 4294967296) (m := 4294967295) (b := b % 4294967296) (n := 4294967295) (by omega) (by omega) (by omega) (by omega)
  have hab := mul_parts a b
  generalize (a / 4294967296) * (b / 4294967296) = p at *
  generalize (a / 4294967296) * (b % 4294967296) = q at *
  generalize (a % 4294967296) * (b / 4294967296) = r at *
  generalize (a % 4294967296) * (b % 4294967296) = s at *
  generalize a * b = x at *
  subst hab
  have w : ∀ n : Int, 0 ≤ n → n < 18446744073709551616 → IntKind.u64.wrap n = n := fun n h0 h1 => by rw [IntKind.wrap_u64]; omega
  rw [w p (by omega) (by omega), w q (by omega) (by omega), w s (by omega) (by omega), w r (by omega) (by omega)]
  rw [w (q + s / 4294967296) (by omega) (by omega)]
  rw [and_low (by omega) (by omega)]
  rw [w ((q + s / 4294967296) % 4294967296 + r) (by omega) (by omega)]
  rw [w (p + (q + s / 4294967296) / 4294967296) (by omega) (by omega)]
  rw [w (p + (q + s / 4294967296) / 4294967296 + _) (by omega) (by omega)]
  rw [IntKind.wrap_u64]
  congr 2
  omega
theorem abs_mul (a b : Int) : (if a < 0 then -a else a) * (if b < 0 then -b else b) = if (decide (a < 0) != decide (b < 0)) = true then -(a * b) else a * b := by
  by_cases h1 : a < 0 <;> by_cases h2 : b < 0 <;> simp [h1, h2, Int.neg_mul, Int.mul_neg]
theorem num_mul_eq {a b : Int} (ha : InB a) (hb : InB b) (k : Nat) : num_mul.f (k + 1) a b = some (if InB (a * b) then (a * b, true) else (0, false)) := by
  rw [InB_iff] at ha hb
  unfold num_mul.f
  rw [num_size_eq ha, num_size_eq hb]
  simp only [Option.bind_some]
  rw [bits_Mul64_eq (by split <;> omega) (by split <;> omega) (by split <;> omega) (by split <;> omega)]
  simp only [Option.bind_some, num_mul.j0]
  have hm := abs_mul a b
  have h0 : 0 ≤ (if a < 0 then -a else a) * (if b < 0 then -b else b) := Int.mul_nonneg (by split <;> omega) (by split <;> omega)
  have h1 := (mul_le2 (a := if a < 0 then -a else a) (b := if b < 0 then -b else b) (m := 4611686018427387904) (n := 4611686018427387904) (by split <;> omega) (by split <;> omega) (by split <;> omega) (by split <;> omega)).2
  generalize (if a < 0 then -a else a) * (if b < 0 then -b else b) = x at *
  generalize a * b = y at *
  by_cases hs : (decide (a < 0) != decide (b < 0)) = true
  · rw [if_pos hs] at hm
    simp only [hs, if_true, wrap64]
    split
    · rw [if_neg (by rw [InB_iff]; omega)]
    · by_cases hx : x % 18446744073709551616 > 4611686018427387904
      · rw [decide_eq_true hx, if_pos rfl, if_neg (by rw [InB_iff]; omega)]
      · rw [decide_eq_false hx, if_neg (by decide), if_pos (by rw [InB_iff]; omega)]; congr 2; omega
  · rw [if_neg hs] at hm
    replace hs := Bool.eq_false_iff.mpr hs
    simp only [hs, Bool.false_eq_true, if_false, if_true, wrap64]
    split
    · rw [if_neg (by rw [InB_iff]; omega)]
    · by_cases hx : x % 18446744073709551616 > 4611686018427387904
      · rw [decide_eq_true hx, if_pos rfl, if_neg (by rw [InB_iff]; omega)]
      · rw [decide_eq_false hx, if_neg (by decide), if_pos (by rw [InB_iff]; omega)]; congr 2; omega
theorem num_Do_eq (kind a b : Int) (k : Nat) : num_Do.f (k + 3) kind a b = some (doS kind a b) := by
  unfold num_Do.f doS
  simp only [num_Do.j0, num_Do.j1, num_in_eq, Option.bind_some]
  by_cases ha : InB a
  · by_cases hb : InB b
    · simp only [ha, hb, decide_true, if_true, Bool.not_true, Bool.false_eq_true, if_false, and_self]
      have hn : wrap64 (-b) = -b := by rw [InB_iff] at hb; unfold wrap64; omega
      rw [hn, num_add_eq ha hb, num_add_eq ha (b := -b) (by rw [InB_iff] at *; omega), num_mul_eq ha hb]
      simp only [Option.bind_some, ← Int.sub_eq_add_neg]
      by_cases h3 : kind = 3
      · simp only [h3, if_true, true_or]
        split <;> simp
      · by_cases h4 : kind = 4
        · simp only [h4, if_true, true_or, or_true]
          simp
          split <;> simp
        · by_cases h5 : kind = 5
          · simp only [h5]
            simp
            split <;> simp
          · simp [h3, h4, h5]
    · simp only [ha, hb, decide_true, decide_false, if_true, Bool.not_false, and_false, if_false]
      by_cases h3 : kind = 3
      · simp [h3]
      · by_cases h4 : kind = 4
        · simp [h4]
        · by_cases h5 : kind = 5 <;> simp [h3, h4, h5]
  · simp only [ha, decide_false, Bool.false_eq_true, if_false, if_true, false_and]
    by_cases h3 : kind = 3
    · simp [h3]
    · by_cases h4 : kind = 4
      · simp [h4]
      · by_cases h5 : kind = 5 <;> simp [h3, h4, h5]
theorem num_Do_ev (kind a b : Int) : Ev (fun k => num_Do.f k kind a b) (doS kind a b) := Ev.of (num_Do.mono _ _ _) (num_Do_eq kind a b 0)
def sumS (acc : Int) : List Int → Int × Int
  | [] => (acc, 0)
  | x :: l => if (doS 3 acc x).2 = 0 then sumS (doS 3 acc x).1 l else (0, (doS 3 acc x).2)
theorem rd_at (p : List Int) (x : Int) (l : List Int) : rd (p ++ x :: l) p.length = x := by
  simp [rd, List.getD_eq_getElem?_getD]
theorem wrap_len (p : List Int) (h : p.length ≤ 140737488351232) : wrap64 ((p.length : Int) + 1) = (p.length : Int) + 1 := by unfold wrap64; omega
theorem num_Sum_l0 (l : List Int) : ∀ (p : List Int) (acc : Int), (p ++ l).length ≤ 140737488351232 → Ev (fun k => num_Sum.l0 k acc (p ++ l) ((p ++ l).length : Int) p.length) (sumS acc l) := by
  induction l with
  | nil =>
    intro p acc hl
    refine evShift ?_
    simp only [num_Sum.l0]
    exact evNeg (by simp) (evSome rfl)
  | cons x l ih =>
    intro p acc hl
    refine evShift ?_
    simp only [num_Sum.l0]
    refine evPos (by simp; omega) (evPos (by omega) (evPos (by simp; omega) ?_))
    rw [rd_at]
    refine Ev.bind (num_Do_ev _ _ _) ?_
    simp only [sumS]
    split
    · have := ih (p ++ [x]) (doS 3 acc x).1 (by simpa using hl)
      rw [wrap_len p (by simp at hl; omega)]
      simpa using this
    · exact evSome rfl
theorem num_Sum_ev (l : List Int) (h : l.length ≤ 140737488351232) : Ev (fun k => num_Sum.f k l) (sumS 0 l) := num_Sum_l0 l [] 0 h
end Go.Proofs.Ytconpnagoijacaa.P
end
section
namespace Go.Proofs.Ytconpnagoijacaa.P
open Go.RowKit Go.Proofs.YtconpnagoijacaaW.PrintWords Go.Proofs.YtconpnagoijacaaW.PrintLast Go.Proofs.YtconpnagoijacaaW.PrintMore
def smallI (c : Int) : Bool := decide (97 ≤ c ∧ c ≤ 122)
def largeI (c : Int) : Bool := decide (65 ≤ c ∧ c ≤ 90)
def digitI (c : Int) : Bool := decide (48 ≤ c ∧ c ≤ 57)
def innerI (c : Int) : Bool := smallI c || largeI c || digitI c || c == 95
def plainI (c : Int) : Bool := decide (32 ≤ c ∧ c ≤ 126)
def wordS (large : Bool) (s : ByteArray) : Bool :=
  decide (1 ≤ s.size ∧ s.size ≤ 24) && (if large then largeI (bt s 0) else smallI (bt s 0)) && (bytesOf s).all innerI
def valS (kind n : Int) (s : ByteArray) : Bool :=
  if kind = 1 then decide (InB n) && decide (s = ⟨#[]⟩)
  else if kind = 2 then decide (n = 0) && wordS false s
  else if kind = 3 then decide (n = 0) && (bytesOf s).all plainI && decide (s.size ≤ 60)
  else false
theorem val_small_eq (c : Int) : val_small.f c = some (smallI c) := by
  unfold val_small.f smallI
  split
  · congr 1; rw [decide_eq_decide]; omega
  · congr 1; symm; rw [decide_eq_false_iff_not]; omega
theorem val_large_eq (c : Int) : val_large.f c = some (largeI c) := by
  unfold val_large.f largeI
  split
  · congr 1; rw [decide_eq_decide]; omega
  · congr 1; symm; rw [decide_eq_false_iff_not]; omega
theorem val_digit_eq (c : Int) : val_digit.f c = some (digitI c) := by
  unfold val_digit.f digitI
  split
  · congr 1; rw [decide_eq_decide]; omega
  · congr 1; symm; rw [decide_eq_false_iff_not]; omega
theorem subst_letter_eq (c : Int) : subst_letter.f c = some (innerI c) := by
  unfold subst_letter.f innerI smallI largeI digitI
  by_cases h1 : 97 ≤ c <;> by_cases h2 : c ≤ 122 <;> by_cases h3 : 65 ≤ c <;> by_cases h4 : c ≤ 90 <;> by_cases h5 : 48 ≤ c <;> by_cases h6 : c ≤ 57 <;> simp [h1, h2, h3, h4, h5, h6]
theorem all_drop {P : Int → Bool} {s : ByteArray} {i : Nat} (h : i < s.size) : ((bytesOf s).drop i).all P = (P (bt s i) && ((bytesOf s).drop (i + 1)).all P) := by
  obtain ⟨x, h1, h2⟩ := codes_split s i h
  rw [h1, h2]; rfl
theorem drop_end (s : ByteArray) : (bytesOf s).drop s.size = [] := by rw [← len_codes s]; exact List.drop_length
theorem val_symbol_l0 (s : ByteArray) (hs : s.size ≤ maxLen) : ∀ i : Nat, i ≤ s.size → Ev (fun k => val_symbol.l0 k s s.size i) (((bytesOf s).drop i).all innerI) := by
  unfold maxLen at hs
  refine back_ind s.size (fun k i => val_symbol.l0 k s s.size i) _ ?_ ?_
  · refine evShift ?_
    simp only [val_symbol.l0]
    refine evNeg (by omega) (evSome (by rw [drop_end]; rfl))
  · intro i hi ih
    refine evShift ?_
    simp only [val_symbol.l0, val_small_eq, val_large_eq, val_digit_eq, Option.bind_some]
    refine evPos (by omega) (evPos (by omega) (evPos (by omega) ?_))
    rw [all_drop hi, wrap_succ hi (by omega)]
    have e : innerI (bt s i) = (smallI (bt s i) || largeI (bt s i) || digitI (bt s i) || bt s i == 95) := rfl
    by_cases h1 : smallI (bt s i) = true
    · rw [e, h1]; simpa using ih
    · by_cases h2 : largeI (bt s i) = true
      · rw [e, h2]; simpa [h1] using ih
      · by_cases h3 : digitI (bt s i) = true
        · rw [e, h3]; simpa [h1, h2] using ih
        · by_cases h4 : bt s i = 95
          · rw [e]; simpa [h1, h2, h3, h4] using ih
          · rw [e]; simp [h1, h2, h3, h4]; exact evSome (by simp [h4])
theorem val_symbol_ev (s : ByteArray) (hs : s.size ≤ maxLen) : Ev (fun k => val_symbol.f k s) (wordS false s) := by
  have hl := val_symbol_l0 s hs 0 (by omega)
  simp only [List.drop_zero, Int.natCast_zero] at hl
  have hj : Ev (fun k => val_symbol.j0 k s true) false := by
    refine evShift ?_
    simp only [val_symbol.j0, if_true]
    exact evSome rfl
  unfold val_symbol.f wordS
  by_cases h1 : (s.size : Int) < 1
  · refine evPos h1 ?_
    have hd : decide (1 ≤ s.size ∧ s.size ≤ 24) = false := decide_eq_false (by omega)
    rw [hd]; exact hj
  · refine evNeg h1 ?_
    by_cases h2 : (s.size : Int) > 24
    · refine evPos h2 ?_
      have hd : decide (1 ≤ s.size ∧ s.size ≤ 24) = false := decide_eq_false (by omega)
      rw [hd]; exact hj
    · refine evNeg h2 (evPos (by omega) ?_)
      have hd : decide (1 ≤ s.size ∧ s.size ≤ 24) = true := decide_eq_true (by omega)
      rw [hd]
      simp only [val_small_eq, Option.bind_some, Bool.true_and]
      by_cases h3 : smallI (bt s 0) = true
      · simp only [h3, Bool.not_true]
        refine evShift ?_
        simp only [val_symbol.j0, Bool.false_eq_true, if_false]
        exact hl
      · replace h3 := Bool.eq_false_iff.mpr h3
        simp only [h3, Bool.not_false]
        exact hj
theorem subst_Var_l0 (s : ByteArray) (hs : s.size ≤ maxLen) : ∀ i : Nat, i ≤ s.size → Ev (fun k => subst_Var.l0 k s s.size i) (((bytesOf s).drop i).all innerI) := by
  unfold maxLen at hs
  refine back_ind s.size (fun k i => subst_Var.l0 k s s.size i) _ ?_ ?_
  · refine evShift ?_
    simp only [subst_Var.l0]
    refine evNeg (by omega) (evSome (by rw [drop_end]; rfl))
  · intro i hi ih
    refine evShift ?_
    simp only [subst_Var.l0, subst_letter_eq, Option.bind_some]
    refine evPos (by omega) (evPos (by omega) (evPos (by omega) ?_))
    rw [all_drop hi, wrap_succ hi (by omega)]
    by_cases h1 : innerI (bt s i) = true
    · rw [h1]; simpa using ih
    · simp [h1]; exact evSome rfl
theorem subst_Var_ev (s : ByteArray) (hs : s.size ≤ maxLen) : Ev (fun k => subst_Var.f k s) (wordS true s) := by
  have hl := subst_Var_l0 s hs 0 (by omega)
  simp only [List.drop_zero, Int.natCast_zero] at hl
  have hj : Ev (fun k => subst_Var.j0 k s true) false := by
    refine evShift ?_
    simp only [subst_Var.j0, if_true]
    exact evSome rfl
  unfold subst_Var.f wordS
  by_cases h1 : (s.size : Int) < 1
  · refine evPos h1 ?_
    have hd : decide (1 ≤ s.size ∧ s.size ≤ 24) = false := decide_eq_false (by omega)
    rw [hd]; exact hj
  · refine evNeg h1 ?_
    by_cases h2 : (s.size : Int) > 24
    · refine evPos h2 ?_
      have hd : decide (1 ≤ s.size ∧ s.size ≤ 24) = false := decide_eq_false (by omega)
      rw [hd]; exact hj
    · refine evNeg h2 (evPos (by omega) ?_)
      have hd : decide (1 ≤ s.size ∧ s.size ≤ 24) = true := decide_eq_true (by omega)
      rw [hd]
      simp only [if_true]
      by_cases h3 : bt s 0 < 65
      · refine evPos h3 ?_
        have : largeI (bt s 0) = false := decide_eq_false (by omega)
        rw [this]; exact hj
      · refine evNeg h3 ?_
        by_cases h4 : bt s 0 > 90
        · have : largeI (bt s 0) = false := decide_eq_false (by omega)
          rw [this, decide_eq_true h4]; exact hj
        · have : largeI (bt s 0) = true := decide_eq_true (by omega)
          rw [this, decide_eq_false h4]
          refine evShift ?_
          simp only [subst_Var.j0, Bool.false_eq_true, if_false, Bool.true_and]
          exact hl
theorem val_plain_ev (s : ByteArray) (hs : s.size ≤ maxLen) : Ev (fun k => val_plain.f k s) ((bytesOf s).all plainI && decide (s.size ≤ 60)) := by
  have h : ∀ i : Nat, i ≤ s.size → Ev (fun k => val_plain.l0 k s s.size i) (((bytesOf s).drop i).all plainI && decide (s.size ≤ 60)) := by
    unfold maxLen at hs
    refine back_ind s.size (fun k i => val_plain.l0 k s s.size i) _ ?_ ?_
    · refine evShift ?_
      simp only [val_plain.l0]
      refine evNeg (by omega) (evSome (by rw [drop_end]; simp; omega))
    · intro i hi ih
      refine evShift ?_
      simp only [val_plain.l0]
      refine evPos (by omega) (evPos (by omega) (evPos (by omega) ?_))
      rw [all_drop hi, wrap_succ hi (by omega)]
      by_cases h1 : bt s i < 32
      · refine evPos h1 (evSome ?_)
        have : plainI (bt s i) = false := decide_eq_false (by omega)
        rw [this]; rfl
      · refine evNeg h1 ?_
        by_cases h2 : bt s i > 126
        · refine evPos h2 (evSome ?_)
          have : plainI (bt s i) = false := decide_eq_false (by omega)
          rw [this]; rfl
        · refine evNeg h2 ?_
          have : plainI (bt s i) = true := decide_eq_true (by omega)
          rw [this]; exact ih
  have := h 0 (by omega)
  simpa [val_plain.f] using this
theorem val_Check_ev (kind n : Int) (s : ByteArray) (hs : s.size ≤ maxLen) : Ev (fun k => val_Check.f k kind n s) (if valS kind n s then 0 else 1) := by
  unfold val_Check.f valS
  by_cases h1 : kind = 1
  · refine evPos h1 ?_
    rw [if_pos h1]
    by_cases h2 : n ≥ -4611686018427387904
    · refine evPos h2 ?_
      by_cases h3 : n ≤ 4611686018427387904
      · refine evPos h3 ?_
        rw [decide_eq_true ((InB_iff n).2 ⟨h2, h3⟩)]
        by_cases h4 : s = ⟨#[]⟩
        · exact evPos (tl_nil.2 h4) (evSome (by simp [h4]))
        · exact evNeg (fun e => h4 (tl_nil.1 e)) (evSome (by simp [h4]))
      · exact evNeg h3 (evSome (by rw [decide_eq_false (fun h => h3 ((InB_iff n).1 h).2)]; rfl))
    · exact evNeg h2 (evSome (by rw [decide_eq_false (fun h => h2 ((InB_iff n).1 h).1)]; rfl))
  · refine evNeg h1 ?_
    rw [if_neg h1]
    by_cases h2 : kind = 2
    · refine evPos h2 ?_
      rw [if_pos h2]
      by_cases h3 : n = 0
      · refine evPos h3 (Ev.bind (val_symbol_ev s hs) ?_)
        rw [decide_eq_true h3]
        cases wordS false s <;> exact evSome rfl
      · refine evNeg h3 (evSome ?_)
        rw [decide_eq_false h3]; rfl
    · refine evNeg h2 ?_
      rw [if_neg h2]
      by_cases h3 : kind = 3
      · refine evPos h3 ?_
        rw [if_pos h3]
        by_cases h4 : n = 0
        · refine evPos h4 (Ev.bind (val_plain_ev s hs) ?_)
          rw [decide_eq_true h4, Bool.true_and]
          cases ((bytesOf s).all plainI && decide (s.size ≤ 60)) <;> exact evSome rfl
        · refine evNeg h4 (evSome ?_)
          rw [decide_eq_false h4]; rfl
      · refine evNeg h3 (evSome ?_)
        rw [if_neg h3]; rfl
end Go.Proofs.Ytconpnagoijacaa.P
end
section
namespace Go.Proofs.Ytconpnagoijacaa.P
open Go.RowKit Go.Proofs.YtconpnagoijacaaW.PrintWords Go.Proofs.YtconpnagoijacaaW.PrintLast Go.Proofs.YtconpnagoijacaaW.PrintMore
theorem drop_at {α : Type} (l : List α) (i : Nat) (h : i < l.length) : l.drop i = l[i] :: l.drop (i + 1) := List.drop_eq_getElem_cons h
theorem rdV_nth (l : List S40) (i : Nat) (h : i < l.length) : rd_T40 l i = l[i] := by simp [rd_T40, List.getD_eq_getElem?_getD, h]
theorem rdO_nth (l : List S52) (i : Nat) (h : i < l.length) : rd_T52 l i = l[i] := by simp [rd_T52, List.getD_eq_getElem?_getD, h]
theorem rdB_nth (l : List S62) (i : Nat) (h : i < l.length) : rd_T62 l i = l[i] := by simp [rd_T62, List.getD_eq_getElem?_getD, h]
def pushS (o : S52) : Bool := decide (o.f0 = 1 ∨ o.f0 = 2)
def zeroS (v : S40) : Bool := decide (v.f0 = 0) && (decide (v.f1 = 0) && decide (v.f2 = ⟨#[]⟩))
def opS (o : S52) : Bool :=
  if o.f0 = 1 then wordS true o.f1 && zeroS o.f2
  else if o.f0 = 2 then decide (o.f1 = ⟨#[]⟩) && valS o.f2.f0 o.f2.f1 o.f2.f2
  else decide (o.f0 = 3 ∨ o.f0 = 4 ∨ o.f0 = 5) && (decide (o.f1 = ⟨#[]⟩) && zeroS o.f2)
def deepS : Int → List S52 → Option Int
  | d, [] => some d
  | d, o :: l => if opS o && (pushS o || decide (2 ≤ d)) then deepS (if pushS o then d + 1 else d - 1) l else none
def exprS (l : List S52) : Bool := decide (1 ≤ l.length ∧ l.length ≤ 15) && decide (deepS 0 l = some 1)
def bindS (x : S62) : Bool := wordS true x.f0 && valS x.f1.f0 x.f1.f1 x.f1.f2
def risingS : List S62 → Bool
  | [] => true
  | [x] => bindS x
  | x :: y :: l => bindS x && (Op.bytesLess x.f0.toList y.f0.toList && risingS (y :: l))
def bindsS (l : List S62) : Bool := decide (l.length ≤ 100) && risingS l
def getS (l : List S62) (s : ByteArray) : Option S40 := (l.find? fun x => decide (x.f0 = s)).map (·.f1)
def zV : S40 := ⟨0, 0, ⟨#[]⟩⟩
def tupV (v : S40) (e : Int) : Int × Int × ByteArray × Int := (v.f0, v.f1, v.f2, e)
def pushV (b : List S62) (o : S52) : S40 × Int := if o.f0 = 2 then (o.f2, 0) else match getS b o.f1 with | some v => (v, 0) | none => (zV, 5)
def reckV (kind : Int) (x y : S40) : S40 × Int :=
  if x.f0 = 1 ∧ y.f0 = 1 then (if (doS kind x.f1 y.f1).2 = 0 then (⟨1, (doS kind x.f1 y.f1).1, ⟨#[]⟩⟩, 0) else (zV, (doS kind x.f1 y.f1).2)) else (zV, 3)
def evalS (b : List S62) : List S40 → List S52 → S40 × Int
  | st, [] => (st.getLastD zV, 0)
  | st, o :: l =>
    if pushS o then (if (pushV b o).2 = 0 then evalS b ((pushV b o).1 :: st) l else (zV, (pushV b o).2))
    else match st with
      | y :: x :: st => if (reckV o.f0 x y).2 = 0 then evalS b ((reckV o.f0 x y).1 :: st) l else (zV, (reckV o.f0 x y).2)
      | _ => (zV, 0)
def evalE (l : List S52) (b : List S62) : S40 × Int := if exprS l && bindsS b then evalS b [] l else (zV, 1)
def varsS (out : List ByteArray) : List S52 → List ByteArray
  | [] => out
  | o :: l => if (decide (o.f1 = ⟨#[]⟩) || out.any fun x => decide (x = o.f1)) then varsS out l else varsS (out ++ [o.f1]) l
def partS : Int → List S52 → Int
  | _, [] => -1
  | need, o :: r => if (if pushS o then need - 1 else need + 1) = 0 then (r.length : Int) else partS (if pushS o then need - 1 else need + 1) r
def partE (l : List S52) (e : Int) : Int := if exprS l = true ∧ 0 ≤ e ∧ e < l.length then partS 1 (l.take (e.toNat + 1)).reverse else -1
theorem expr_pushes_eq (o : S52) : expr_pushes.f o.f0 = some (pushS o) := by
  unfold expr_pushes.f pushS
  split
  · rw [decide_eq_true (by omega)]
  · congr 1; rw [Bool.eq_iff_iff]; simp; omega
theorem zero_beq (v : S40) : (v.f0 == 0 && (v.f1 == 0 && (v.f2.toList == ([] : List UInt8)))) = zeroS v := by
  unfold zeroS; rw [tl_beq_nil]; rfl
theorem expr_right_ev (o : S52) (h1 : o.f1.size ≤ maxLen) (h2 : o.f2.f2.size ≤ maxLen) : Ev (fun k => expr_right.f k o.f0 o.f1 o.f2.f0 o.f2.f1 o.f2.f2) (opS o) := by
  unfold expr_right.f opS
  by_cases k1 : o.f0 = 1
  · refine evPos k1 (Ev.bind (subst_Var_ev _ h1) ?_)
    rw [if_pos k1, zero_beq]
    cases wordS true o.f1 <;> exact evSome (by simp)
  · refine evNeg k1 ?_
    rw [if_neg k1]
    by_cases k2 : o.f0 = 2
    · refine evPos k2 ?_
      rw [if_pos k2]
      by_cases k3 : o.f1 = ⟨#[]⟩
      · refine evPos (tl_nil.2 k3) (Ev.bind (val_Check_ev _ _ _ h2) (evSome ?_))
        rw [decide_eq_true k3]
        cases valS o.f2.f0 o.f2.f1 o.f2.f2 <;> simp
      · refine evNeg (fun e => k3 (tl_nil.1 e)) (evSome ?_)
        rw [decide_eq_false k3]; rfl
    · refine evNeg k2 ?_
      rw [if_neg k2]
      have fin : Ev (fun _ => if o.f1.toList = ([] : List UInt8) then some (o.f2.f0 == 0 && (o.f2.f1 == 0 && (o.f2.f2.toList == ([] : List UInt8)))) else some false) (decide (o.f1 = ⟨#[]⟩) && zeroS o.f2) := by
        by_cases k3 : o.f1 = ⟨#[]⟩
        · refine evPos (tl_nil.2 k3) (evSome ?_)
          rw [decide_eq_true k3, zero_beq]; simp
        · refine evNeg (fun e => k3 (tl_nil.1 e)) (evSome ?_)
          rw [decide_eq_false k3]; rfl
      by_cases k3 : o.f0 = 3
      · rw [decide_eq_true (by omega), Bool.true_and]; exact evPos k3 fin
      · refine evNeg k3 ?_
        by_cases k4 : o.f0 = 4
        · rw [decide_eq_true (by omega), Bool.true_and]; exact evPos k4 fin
        · refine evNeg k4 ?_
          by_cases k5 : o.f0 = 5
          · rw [decide_eq_true (by omega), Bool.true_and]; exact evPos k5 fin
          · refine evNeg k5 (evSome ?_)
            rw [decide_eq_false (by omega)]; rfl
def OpsOk (l : List S52) : Prop := ∀ o ∈ l, o.f1.size ≤ maxLen ∧ o.f2.f2.size ≤ maxLen
def BindsOk (l : List S62) : Prop := ∀ x ∈ l, x.f0.size ≤ maxLen ∧ x.f1.f2.size ≤ maxLen
theorem expr_Check_l0 (l : List S52) (ho : OpsOk l) (hl : l.length ≤ 1000000) : ∀ (d : Nat) (i : Nat) (n : Int), i + d = l.length → 0 ≤ n → n ≤ i →
    Ev (fun k => expr_Check.l0 k n l l.length i) (if deepS n (l.drop i) = some 1 then 0 else 1) := by
  intro d
  induction d with
  | zero =>
    intro i n hi h0 h1
    refine evShift ?_
    simp only [expr_Check.l0]
    refine evNeg (by omega) ?_
    rw [List.drop_of_length_le (by omega)]
    simp only [deepS, Option.some.injEq]
    by_cases h : n = 1
    · exact evPos h (evSome (by rw [if_pos h]))
    · exact evNeg h (evSome (by rw [if_neg h]))
  | succ d ih =>
    intro i n hi h0 h1
    have hlt : i < l.length := by omega
    obtain ⟨b1, b2⟩ := ho l[i] (List.getElem_mem hlt)
    refine evShift ?_
    simp only [expr_Check.l0]
    refine evPos (by omega) (evPos (by omega) (evPos (by omega) ?_))
    simp only [rdO_nth l i hlt]
    rw [drop_at l i hlt]
    simp only [deepS]
    refine Ev.bind (expr_right_ev _ b1 b2) ?_
    have j2 : ∀ (x : Bool) (m : Int), m = (if pushS l[i] then n + 1 else n - 1) → (x = false → 0 ≤ m) → Ev (fun k => expr_Check.j2 k n l l.length i x l[i].f0 l[i].f1 l[i].f2.f0 l[i].f2.f1 l[i].f2.f2) (if x = false ∧ deepS m (l.drop (i + 1)) = some 1 then 0 else 1) := by
      intro x m hm hx
      refine evShift ?_
      simp only [expr_Check.j2]
      cases x with
      | true => exact evPos rfl (evSome (by simp))
      | false =>
        refine evNeg (by decide) ?_
        rw [expr_pushes_eq]
        simp only [Option.bind_some]
        have hx := hx rfl
        rw [wrap_succ hlt (by omega)]
        cases hp : pushS l[i] with
        | true =>
          rw [hp] at hm
          simp only [if_true] at hm
          refine evPos rfl ?_
          have e : wrap64 (n + 1) = m := by unfold wrap64; omega
          rw [e]
          simpa using ih (i + 1) m (by omega) hx (by omega)
        | false =>
          rw [hp] at hm
          simp only [Bool.false_eq_true, if_false] at hm
          refine evNeg (by decide) ?_
          have e : wrap64 (n - 1) = m := by unfold wrap64; omega
          rw [e]
          simpa using ih (i + 1) m (by omega) hx (by omega)
    refine evCond (fun hr => ?_) (fun hr => ?_)
    · rw [expr_pushes_eq]
      simp only [Option.bind_some, hr, Bool.true_and]
      refine evCond (fun hp => ?_) (fun hp => ?_)
      · have := j2 false (n + 1) (by rw [hp]; rfl) (fun _ => by omega)
        simpa [hp] using this
      · by_cases h2 : n < 2
        · have := j2 true _ rfl (by simp)
          rw [decide_eq_true h2]
          have h3 : ¬ (2 ≤ n) := by omega
          simpa [h3, hp] using this
        · have := j2 false (n - 1) (by rw [hp]; rfl) (fun _ => by omega)
          rw [decide_eq_false h2]
          have h3 : 2 ≤ n := by omega
          simpa [h3, hp] using this
    · have := j2 true _ rfl (by simp)
      simpa [hr] using this
theorem expr_Check_ev (l : List S52) (ho : OpsOk l) (hl : l.length ≤ maxLen) : Ev (fun k => expr_Check.f k l) (if exprS l then 0 else 1) := by
  unfold maxLen at hl
  have hj : Ev (fun k => expr_Check.j0 k l true) 1 := by
    refine evShift ?_
    simp only [expr_Check.j0, if_true]
    exact evSome rfl
  unfold expr_Check.f exprS
  by_cases h1 : (l.length : Int) < 1
  · refine evPos h1 ?_
    have hd : decide (1 ≤ l.length ∧ l.length ≤ 15) = false := decide_eq_false (by omega)
    rw [hd]; exact hj
  · refine evNeg h1 ?_
    by_cases h2 : (l.length : Int) > 15
    · have hd : decide (1 ≤ l.length ∧ l.length ≤ 15) = false := decide_eq_false (by omega)
      rw [hd, decide_eq_true h2]; exact hj
    · have hd : decide (1 ≤ l.length ∧ l.length ≤ 15) = true := decide_eq_true (by omega)
      rw [hd, decide_eq_false h2]
      refine evShift ?_
      simp only [expr_Check.j0, Bool.false_eq_true, if_false]
      have := expr_Check_l0 l ho (by omega) l.length 0 0 (by omega) (by omega) (by omega)
      simpa using this
theorem subst_right_ev (x : S62) (h1 : x.f0.size ≤ maxLen) (h2 : x.f1.f2.size ≤ maxLen) : Ev (fun k => subst_right.f k x.f0 x.f1.f0 x.f1.f1 x.f1.f2) (bindS x) := by
  unfold subst_right.f bindS
  refine Ev.bind (subst_Var_ev _ h1) ?_
  cases wordS true x.f0 with
  | false => exact evNeg (by decide) (evSome rfl)
  | true =>
    refine evPos rfl (Ev.bind (val_Check_ev _ _ _ h2) (evSome ?_))
    cases valS x.f1.f0 x.f1.f1 x.f1.f2 <;> simp
def restS : Option ByteArray → List S62 → Bool
  | _, [] => true
  | none, x :: l => bindS x && restS (some x.f0) l
  | some s, x :: l => bindS x && (Op.bytesLess s.toList x.f0.toList && restS (some x.f0) l)
theorem rest_rising : ∀ (l : List S62), (restS none l = risingS l) ∧ ∀ x, (bindS x && restS (some x.f0) l) = risingS (x :: l)
  | [] => ⟨rfl, fun x => by simp [restS, risingS]⟩
  | y :: l => by
    obtain ⟨_, h2⟩ := rest_rising l
    refine ⟨by simp only [restS]; exact h2 y, fun x => ?_⟩
    simp only [restS, risingS]
    rw [← h2 y]
    cases bindS x <;> cases bindS y <;> simp
theorem subst_Check_l0 (l : List S62) (ho : BindsOk l) (hl : l.length ≤ 1000000) : ∀ (d : Nat) (i : Nat), i + d = l.length →
    Ev (fun k => subst_Check.l0 k l l l.length i) (if restS (if h : 0 < i ∧ i - 1 < l.length then some (l[i - 1]'h.2).f0 else none) (l.drop i) then 0 else 1) := by
  intro d
  induction d with
  | zero =>
    intro i hi
    refine evShift ?_
    simp only [subst_Check.l0]
    refine evNeg (by omega) (evSome ?_)
    rw [List.drop_of_length_le (by omega)]
    simp [restS]
  | succ d ih =>
    intro i hi
    have hlt : i < l.length := by omega
    obtain ⟨b1, b2⟩ := ho l[i] (List.getElem_mem hlt)
    refine evShift ?_
    simp only [subst_Check.l0]
    refine evPos (by omega) (evPos (by omega) (evPos (by omega) ?_))
    simp only [rdB_nth l i hlt]
    rw [drop_at l i hlt]
    refine Ev.bind (subst_right_ev _ b1 b2) ?_
    have hn := ih (i + 1) (by omega)
    rw [dif_pos (by omega)] at hn
    simp only [Nat.add_sub_cancel] at hn
    rw [wrap_succ hlt (by omega)]
    by_cases h0 : 0 < i
    · rw [dif_pos ⟨h0, by omega⟩]
      simp only [restS]
      refine evCond (fun hb => ?_) (fun hb => evSome (by simp [hb]))
      refine evPos (by omega) ?_
      have e : wrap64 ((i : Int) - 1) = ((i - 1 : Nat) : Int) := by unfold wrap64; omega
      rw [e]
      refine evPos (by omega) (evPos (by omega) ?_)
      rw [rdB_nth l (i - 1) (by omega)]
      refine evCond (fun hc => ?_) (fun hc => evSome (by simp [hc]))
      simpa [hb, hc] using hn
    · rw [dif_neg (by omega)]
      simp only [restS]
      refine evCond (fun hb => ?_) (fun hb => evSome (by simp [hb]))
      refine evNeg (by omega) ?_
      simpa [hb] using hn
theorem subst_Check_ev (l : List S62) (ho : BindsOk l) : Ev (fun k => subst_Check.f k l) (if bindsS l then 0 else 1) := by
  unfold subst_Check.f bindsS
  by_cases h : (l.length : Int) > 100
  · refine evPos h (evSome ?_)
    rw [decide_eq_false (by omega)]; rfl
  · refine evNeg h ?_
    rw [decide_eq_true (by omega)]
    have := subst_Check_l0 l ho (by omega) l.length 0 (by omega)
    rw [dif_neg (by omega)] at this
    simpa [(rest_rising l).1] using this
theorem getS_cons (x : S62) (l : List S62) (s : ByteArray) : getS (x :: l) s = if x.f0 = s then some x.f1 else getS l s := by
  unfold getS
  rw [List.find?_cons]
  by_cases e : x.f0 = s
  · rw [if_pos e, decide_eq_true e]; rfl
  · rw [if_neg e, decide_eq_false e]
theorem subst_Get_ev (l : List S62) (s : ByteArray) (hl : l.length ≤ maxLen) : Ev (fun k => subst_Get.f k l s) (match getS l s with | some v => (v.f0, v.f1, v.f2, true) | none => (0, 0, ⟨#[]⟩, false)) := by
  unfold maxLen at hl
  have h : ∀ i : Nat, i ≤ l.length → Ev (fun k => subst_Get.l0 k s l l.length i) (match getS (l.drop i) s with | some v => (v.f0, v.f1, v.f2, true) | none => (0, 0, ⟨#[]⟩, false)) := by
    refine back_ind l.length (fun k i => subst_Get.l0 k s l l.length i) _ ?_ ?_
    · refine evShift ?_
      simp only [subst_Get.l0]
      refine evNeg (by omega) (evSome ?_)
      rw [List.drop_length]; rfl
    · intro i hi ih
      refine evShift ?_
      simp only [subst_Get.l0]
      refine evPos (by omega) (evPos (by omega) (evPos (by omega) ?_))
      rw [rdB_nth l i hi, drop_at l i hi, wrap_succ hi (by omega)]
      by_cases e : l[i].f0 = s
      · refine evPos (by rw [e]) (evSome ?_)
        rw [getS_cons, if_pos e]
      · refine evNeg (fun h => e (tl_inj.1 h)) ?_
        rw [getS_cons, if_neg e]; exact ih
  have := h 0 (by omega)
  simpa [subst_Get.f] using this
theorem expr_push_ev (o : S52) (b : List S62) (hl : b.length ≤ maxLen) : Ev (fun k => expr_push.f k o.f0 o.f1 o.f2.f0 o.f2.f1 o.f2.f2 b) (tupV (pushV b o).1 (pushV b o).2) := by
  unfold expr_push.f pushV
  by_cases h : o.f0 = 2
  · refine evPos h (evSome ?_)
    rw [if_pos h]; rfl
  · refine evNeg h (Ev.bind (subst_Get_ev b o.f1 hl) ?_)
    rw [if_neg h]
    cases getS b o.f1 with
    | some v => exact evPos rfl (evSome rfl)
    | none => exact evNeg (by decide) (evSome rfl)
theorem expr_reckon_ev (kind : Int) (x y : S40) : Ev (fun k => expr_reckon.f k kind x.f0 x.f1 x.f2 y.f0 y.f1 y.f2) (tupV (reckV kind x y).1 (reckV kind x y).2) := by
  unfold expr_reckon.f reckV
  have hj : Ev (fun k => expr_reckon.j0 k kind true x.f0 x.f1 x.f2 y.f0 y.f1 y.f2) (tupV zV 3) := by
    refine evShift ?_
    simp only [expr_reckon.j0, if_true]
    exact evSome rfl
  by_cases h1 : x.f0 = 1
  · refine evPos h1 ?_
    by_cases h2 : y.f0 = 1
    · rw [if_pos ⟨h1, h2⟩]
      refine evShift ?_
      simp only [expr_reckon.j0, h2, bne_self_eq_false, Bool.false_eq_true, if_false]
      refine Ev.bind (num_Do_ev _ _ _) ?_
      by_cases h3 : (doS kind x.f1 y.f1).2 = 0
      · exact evPos h3 (evSome (by rw [if_pos h3]; rfl))
      · exact evNeg h3 (evSome (by rw [if_neg h3]; rfl))
    · rw [if_neg (fun h => h2 h.2)]
      have : (y.f0 != 1) = true := by simpa using h2
      rw [this]; exact hj
  · rw [if_neg (fun h => h1 h.1)]
    exact evNeg h1 hj
end Go.Proofs.Ytconpnagoijacaa.P
end
section
namespace Go.Proofs.Ytconpnagoijacaa.P
open Go.RowKit Go.Proofs.YtconpnagoijacaaW.PrintWords Go.Proofs.YtconpnagoijacaaW.PrintLast Go.Proofs.YtconpnagoijacaaW.PrintMore
theorem rdV_mid (p : List S40) (x : S40) (r : List S40) (i : Int) (h : i = p.length) : rd_T40 (p ++ x :: r) i = x := by
  subst h; simp [rd_T40, List.getD_eq_getElem?_getD]
theorem deep_push {n : Int} {o : S52} {l : List S52} {m : Int} (h : deepS n (o :: l) = some m) (hp : pushS o = true) : opS o = true ∧ deepS (n + 1) l = some m := by
  simp only [deepS, hp, Bool.true_or, Bool.and_true, if_true] at h
  by_cases ho : opS o = true
  · rw [if_pos ho] at h; exact ⟨ho, h⟩
  · rw [if_neg ho] at h; cases h
theorem deep_reck {n : Int} {o : S52} {l : List S52} {m : Int} (h : deepS n (o :: l) = some m) (hp : pushS o = false) : opS o = true ∧ 2 ≤ n ∧ deepS (n - 1) l = some m := by
  simp only [deepS, hp, Bool.false_or, Bool.false_eq_true, if_false] at h
  by_cases ho : (opS o && decide (2 ≤ n)) = true
  · rw [if_pos ho] at h
    simp only [Bool.and_eq_true, decide_eq_true_eq] at ho
    exact ⟨ho.1, ho.2, h⟩
  · rw [if_neg ho] at h; cases h
theorem expr_Eval_l0 (l : List S52) (b : List S62) (hl : l.length ≤ 1000000) (hb : b.length ≤ maxLen) : ∀ (d i : Nat) (st : List S40), i + d = l.length → st.length ≤ i → deepS st.length (l.drop i) = some 1 →
    Ev (fun k => expr_Eval.l0 k b st.reverse l l.length i) (tupV (evalS b st (l.drop i)).1 (evalS b st (l.drop i)).2) := by
  intro d
  induction d with
  | zero =>
    intro i st hi h1 hd
    rw [List.drop_of_length_le (by omega)] at hd ⊢
    simp only [deepS, Option.some.injEq] at hd
    match st, hd with
    | [v], _ =>
      refine evShift ?_
      simp only [expr_Eval.l0]
      exact evNeg (by omega) (evPos (by simp) (evSome rfl))
    | [], hd => simp at hd
    | _ :: _ :: _, hd => simp at hd; omega
  | succ d ih =>
    intro i st hi h1 hd
    have hlt : i < l.length := by omega
    rw [drop_at l i hlt] at hd ⊢
    refine evShift ?_
    simp only [expr_Eval.l0]
    refine evPos (by omega) (evPos (by omega) (evPos (by omega) ?_))
    simp only [rdO_nth l i hlt]
    rw [expr_pushes_eq, wrap_succ hlt (by omega)]
    simp only [Option.bind_some]
    refine evCond (fun hp => ?_) (fun hp => ?_)
    · obtain ⟨_, hd2⟩ := deep_push hd hp
      refine Ev.bind (expr_push_ev l[i] b hb) ?_
      simp only [evalS, hp, if_true]
      refine evIf (fun he => ?_) (fun he => ?_)
      · have he' : (pushV b l[i]).2 = 0 := he
        rw [if_pos he']
        refine evPos (by simp; omega) ?_
        have := ih (i + 1) ((pushV b l[i]).1 :: st) (by omega) (by simp; omega) (by simpa using hd2)
        rw [List.reverse_cons] at this
        exact this
      · have he' : ¬ (pushV b l[i]).2 = 0 := he
        rw [if_neg he']
        exact evSome rfl
    · obtain ⟨_, h2, hd2⟩ := deep_reck hd hp
      match st, h1, h2, hd2 with
      | [], _, h2, _ => simp at h2
      | [_], _, h2, _ => simp at h2
      | y :: x :: st, h1, h2, hd2 =>
        have e : (y :: x :: st).reverse = st.reverse ++ x :: y :: [] := by simp
        have e' : (y :: x :: st).reverse = (st.reverse ++ [x]) ++ y :: [] := by simp
        have w1 : wrap64 (((y :: x :: st).reverse.length : Int) - 2) = (st.reverse.length : Int) := by simp at h1 ⊢; unfold wrap64; omega
        have w2 : wrap64 ((st.reverse.length : Int) + 1) = ((st.reverse ++ [x]).length : Int) := by simp at h1 ⊢; unfold wrap64; omega
        rw [w1, w2]
        refine evPos (by omega) (evPos (by simp; omega) (evPos (by omega) (evPos (by simp) ?_)))
        rw [show rd_T40 (y :: x :: st).reverse (st.reverse.length : Int) = x from by rw [e]; exact rdV_mid _ _ _ _ rfl]
        rw [show rd_T40 (y :: x :: st).reverse ((st.reverse ++ [x]).length : Int) = y from by rw [e']; exact rdV_mid _ _ _ _ rfl]
        refine Ev.bind (expr_reckon_ev _ _ _) (evPos (by simp; omega) ?_)
        have ht : (y :: x :: st).reverse.take ((st.reverse.length : Int)).toNat = st.reverse := by rw [e, Int.toNat_natCast, List.take_left]
        rw [ht]
        refine evBind0 rfl ?_
        simp only [evalS, hp, Bool.false_eq_true, if_false]
        refine evIf (fun he => ?_) (fun he => ?_)
        · have he' : (reckV l[i].f0 x y).2 = 0 := he
          rw [if_pos he']
          simp only [List.length_cons] at h1 hd2
          refine evPos (by simp; omega) ?_
          have := ih (i + 1) ((reckV l[i].f0 x y).1 :: st) (by omega) (by simp; omega) (by
            rw [← hd2]; congr 1; simp only [List.length_cons]; omega)
          rw [List.reverse_cons] at this
          exact this
        · have he' : ¬ (reckV l[i].f0 x y).2 = 0 := he
          rw [if_neg he']
          exact evSome rfl
theorem expr_Eval_ev (l : List S52) (b : List S62) (ho : OpsOk l) (hl : l.length ≤ maxLen) (hbo : BindsOk b) (hb : b.length ≤ maxLen) :
    Ev (fun k => expr_Eval.f k l b) (tupV (evalE l b).1 (evalE l b).2) := by
  unfold expr_Eval.f evalE
  refine Ev.bind (expr_Check_ev l ho hl) ?_
  have hj : Ev (fun k => expr_Eval.j0 k l b 1) (tupV zV 1) := by
    refine evShift ?_
    simp only [expr_Eval.j0]
    exact evNeg (by decide) (evSome rfl)
  cases he : exprS l with
  | false => exact evNeg (by decide) hj
  | true =>
    refine evPos rfl (Ev.bind (subst_Check_ev b hbo) ?_)
    cases hb2 : bindsS b with
    | false => exact hj
    | true =>
      refine evShift ?_
      simp only [expr_Eval.j0, if_true, Bool.and_self]
      simp only [exprS, Bool.and_eq_true, decide_eq_true_eq] at he
      have := expr_Eval_l0 l b (by omega) hb l.length 0 [] (by omega) (by simp) (by simpa using he.2)
      simpa using this
def idxS (s : ByteArray) : Nat → List ByteArray → Int
  | _, [] => -1
  | i, x :: l => if x = s then (i : Int) else idxS s (i + 1) l
theorem idx_any (s : ByteArray) : ∀ (l : List ByteArray) (i : Nat), decide (idxS s i l ≥ 0) = l.any fun x => decide (x = s)
  | [], i => by simp [idxS]
  | x :: l, i => by
    by_cases e : x = s
    · simp [idxS, e]
    · simp only [idxS, if_neg e, List.any_cons, decide_eq_false e, Bool.false_or]
      exact idx_any s l (i + 1)
theorem rdS_nth (l : List ByteArray) (i : Nat) (h : i < l.length) : rdOf ByteArray.empty l i = l[i] := rdOf_nth _ l i h
theorem slices_Contains_ev (l : List ByteArray) (s : ByteArray) (hl : l.length ≤ maxLen) : Ev (fun k => slices_Contains_string_string.f k l s) (l.any fun x => decide (x = s)) := by
  unfold maxLen at hl
  have h : ∀ i : Nat, i ≤ l.length → Ev (fun k => slices_Index_string_string.l0 k l s l.length i) (idxS s i (l.drop i)) := by
    refine back_ind l.length (fun k i => slices_Index_string_string.l0 k l s l.length i) _ ?_ ?_
    · refine evShift ?_
      simp only [slices_Index_string_string.l0]
      refine evNeg (by omega) (evSome ?_)
      rw [List.drop_length]; rfl
    · intro i hi ih
      refine evShift ?_
      simp only [slices_Index_string_string.l0]
      refine evPos (by omega) (evPos (by omega) (evPos (by omega) ?_))
      rw [rdS_nth l i hi, drop_at l i hi, wrap_succ hi (by omega)]
      simp only [idxS]
      refine evIf (fun e => ?_) (fun e => ?_)
      · rw [if_pos (tl_inj.1 e).symm]; exact evSome rfl
      · rw [if_neg (fun h => e (tl_inj.2 h.symm))]; exact ih
  have h0 := h 0 (by omega)
  unfold slices_Contains_string_string.f slices_Index_string_string.f
  refine Ev.bind h0 (evSome ?_)
  rw [idx_any, List.drop_zero]
theorem expr_Vars_l0 (l : List S52) (hl : l.length ≤ 1000000) : ∀ (d i : Nat) (out : List ByteArray), i + d = l.length → out.length ≤ i →
    Ev (fun k => expr_Vars.l0 k out l l.length i) (varsS out (l.drop i)) := by
  intro d
  induction d with
  | zero =>
    intro i out hi h1
    refine evShift ?_
    simp only [expr_Vars.l0]
    refine evNeg (by omega) (evSome ?_)
    rw [List.drop_of_length_le (by omega)]; rfl
  | succ d ih =>
    intro i out hi h1
    have hlt : i < l.length := by omega
    refine evShift ?_
    simp only [expr_Vars.l0]
    refine evPos (by omega) (evPos (by omega) (evPos (by omega) ?_))
    simp only [rdO_nth l i hlt]
    rw [drop_at l i hlt, wrap_succ hlt (by omega)]
    simp only [varsS]
    refine evIf (fun e => ?_) (fun e => ?_)
    · rw [decide_eq_true (tl_nil.1 e), Bool.true_or, if_pos rfl]
      exact ih (i + 1) out (by omega) (by omega)
    · rw [decide_eq_false (fun h => e (tl_nil.2 h)), Bool.false_or]
      refine Ev.bind (slices_Contains_ev out _ (by unfold maxLen; omega)) ?_
      refine evCond (fun h => ?_) (fun h => ?_)
      · rw [if_pos h]; exact ih (i + 1) out (by omega) (by omega)
      · rw [if_neg (by rw [h]; decide)]
        exact evPos (by omega) (ih (i + 1) (out ++ [l[i].f1]) (by omega) (by simp; omega))
theorem expr_Vars_ev (l : List S52) (hl : l.length ≤ 1000000) : Ev (fun k => expr_Vars.f k l) (varsS [] l) := by
  have := expr_Vars_l0 l hl l.length 0 [] (by omega) (by simp)
  simpa [expr_Vars.f] using this
theorem deep_append : ∀ (P R : List S52) (n : Int), deepS n (P ++ R) = (deepS n P).bind fun m => deepS m R
  | [], R, n => rfl
  | o :: P, R, n => by
    simp only [List.cons_append, deepS]
    split
    · exact deep_append P R _
    · rfl
theorem snoc_of {α : Type} (l : List α) (h : l ≠ []) : ∃ p x, l = p ++ [x] := ⟨l.dropLast, l.getLast h, (List.dropLast_concat_getLast h).symm⟩
theorem part_ok : ∀ (n : Nat) (P : List S52) (d need : Int), P.length = n → deepS 0 P = some d → 1 ≤ need → need ≤ d →
    ∃ Q R, P = Q ++ R ∧ R ≠ [] ∧ partS need P.reverse = Q.length ∧ deepS 0 Q = some (d - need) ∧ deepS 0 R = some need := by
  intro n
  induction n with
  | zero =>
    intro P d need hP hd h1 h2
    obtain rfl := List.eq_nil_of_length_eq_zero hP
    simp only [deepS, Option.some.injEq] at hd
    omega
  | succ n ih =>
    intro P d need hP hd h1 h2
    obtain ⟨P0, o, rfl⟩ := snoc_of P (by intro h; rw [h] at hP; simp at hP)
    have hP0 : P0.length = n := by simpa using hP
    rw [deep_append, Option.bind_eq_some_iff] at hd
    obtain ⟨m, hm, hd⟩ := hd
    rw [List.reverse_append]
    simp only [List.reverse_cons, List.reverse_nil, List.nil_append, List.cons_append, partS]
    cases hp : pushS o with
    | true =>
      obtain ⟨ho, hd⟩ := deep_push hd hp
      simp only [deepS, Option.some.injEq] at hd
      have one : deepS 0 [o] = some 1 := by simp [deepS, ho, hp]
      by_cases h0 : need - 1 = 0
      · refine ⟨P0, [o], rfl, by simp, ?_, ?_, ?_⟩
        · simp [h0]
        · rw [hm]; congr 1; omega
        · rw [one]; congr 1; omega
      · obtain ⟨Q, R, rfl, hR, hq, hQ, hRd⟩ := ih P0 m (need - 1) hP0 hm (by omega) (by omega)
        refine ⟨Q, R ++ [o], by simp, by simp, ?_, ?_, ?_⟩
        · simp only [if_true, h0, if_false]; exact hq
        · rw [hQ]; congr 1; omega
        · rw [deep_append, hRd]; simp [deepS, ho, hp]
    | false =>
      obtain ⟨ho, h3, hd⟩ := deep_reck hd hp
      simp only [deepS, Option.some.injEq] at hd
      obtain ⟨Q, R, rfl, hR, hq, hQ, hRd⟩ := ih P0 m (need + 1) hP0 hm (by omega) (by omega)
      refine ⟨Q, R ++ [o], by simp, by simp, ?_, ?_, ?_⟩
      · have h0 : ¬ need + 1 = 0 := by omega
        simp only [Bool.false_eq_true, if_false, h0]; exact hq
      · rw [hQ]; congr 1; omega
      · rw [deep_append, hRd]
        simp only [Option.bind_some, deepS, ho, hp, Bool.false_or, Bool.true_and, Bool.false_eq_true, if_false]
        rw [if_pos (by simp; omega)]; congr 1; omega
theorem deep_prefix : ∀ (P R : List S52) (n m : Int), deepS n (P ++ R) = some m → ∃ d, deepS n P = some d ∧ deepS d R = some m := by
  intro P R n m h
  rw [deep_append, Option.bind_eq_some_iff] at h
  exact h
theorem deep_pos : ∀ (P : List S52) (n d : Int), 0 ≤ n → deepS n P = some d → (P ≠ [] ∨ 1 ≤ n) → 1 ≤ d
  | [], n, d, _, h, hp => by
    simp only [deepS, Option.some.injEq] at h
    rcases hp with hp | hp
    · exact absurd rfl hp
    · omega
  | o :: P, n, d, h0, h, _ => by
    cases hp : pushS o with
    | true =>
      obtain ⟨_, h⟩ := deep_push h hp
      exact deep_pos P (n + 1) d (by omega) h (.inr (by omega))
    | false =>
      obtain ⟨_, h2, h⟩ := deep_reck h hp
      exact deep_pos P (n - 1) d (by omega) h (.inr (by omega))
theorem take_snoc (l : List S52) (i : Nat) (h : i < l.length) : (l.take (i + 1)).reverse = l[i] :: (l.take i).reverse := by
  rw [List.take_succ_eq_append_getElem h, List.reverse_append]; rfl
theorem expr_Part_l0 (l : List S52) (hl : l.length ≤ 1000000) : ∀ (i : Nat) (need : Int), i < l.length → 1 ≤ need → need + i ≤ 2000000 → 0 ≤ partS need (l.take (i + 1)).reverse →
    Ev (fun k => expr_Part.l0 k l need i) (partS need (l.take (i + 1)).reverse) := by
  intro i
  induction i with
  | zero =>
    intro need hi h1 h2 h3
    rw [take_snoc l 0 hi] at h3 ⊢
    simp only [partS, List.take_zero, List.reverse_nil] at h3 ⊢
    refine evShift ?_
    simp only [expr_Part.l0]
    refine evPos (by omega) (evPos (by omega) ?_)
    have e0 : rd_T52 l ((0 : Nat) : Int) = l[0] := rdO_nth l 0 hi
    rw [e0, expr_pushes_eq]
    simp only [Option.bind_some]
    have w1 : wrap64 (need - 1) = need - 1 := by unfold wrap64; omega
    have w2 : wrap64 (need + 1) = need + 1 := by unfold wrap64; omega
    rw [w1, w2]
    refine evCond (fun hp => ?_) (fun hp => ?_)
    · rw [hp] at h3 ⊢
      simp only [if_true] at h3 ⊢
      by_cases h0 : need - 1 = 0
      · rw [if_pos h0]; exact evPos h0 (evSome rfl)
      · rw [if_neg h0] at h3; omega
    · rw [hp] at h3 ⊢
      simp only [Bool.false_eq_true, if_false] at h3 ⊢
      by_cases h0 : need + 1 = 0
      · omega
      · rw [if_neg h0] at h3; omega
  | succ i ih =>
    intro need hi h1 h2 h3
    rw [take_snoc l (i + 1) hi] at h3 ⊢
    simp only [partS] at h3 ⊢
    refine evShift ?_
    simp only [expr_Part.l0]
    refine evPos (by omega) (evPos (by omega) ?_)
    rw [rdO_nth l (i + 1) hi, expr_pushes_eq]
    simp only [Option.bind_some]
    have w1 : wrap64 (need - 1) = need - 1 := by unfold wrap64; omega
    have w2 : wrap64 (need + 1) = need + 1 := by unfold wrap64; omega
    have w3 : wrap64 (((i + 1 : Nat) : Int) - 1) = (i : Int) := by unfold wrap64; omega
    rw [w1, w2, w3]
    refine evCond (fun hp => ?_) (fun hp => ?_)
    · rw [hp] at h3 ⊢
      simp only [if_true] at h3 ⊢
      refine evIf (fun h0 => ?_) (fun h0 => ?_)
      · rw [if_pos h0]; exact evSome (by simp; omega)
      · rw [if_neg h0] at h3 ⊢
        exact ih (need - 1) (by omega) (by omega) (by omega) h3
    · rw [hp] at h3 ⊢
      simp only [Bool.false_eq_true, if_false] at h3 ⊢
      refine evIf (fun h0 => ?_) (fun h0 => ?_)
      · omega
      · rw [if_neg h0] at h3 ⊢
        exact ih (need + 1) (by omega) (by omega) (by omega) h3
theorem part_in (l : List S52) (h : exprS l = true) (i : Nat) (hi : i < l.length) : ∃ Q R, l.take (i + 1) = Q ++ R ∧ R ≠ [] ∧ partS 1 (l.take (i + 1)).reverse = Q.length ∧ deepS 0 R = some 1 ∧ ∃ d, deepS 0 Q = some d ∧ deepS 0 (l.take (i + 1)) = some (d + 1) := by
  simp only [exprS, Bool.and_eq_true, decide_eq_true_eq] at h
  have hs : deepS 0 (l.take (i + 1) ++ l.drop (i + 1)) = some 1 := by rw [List.take_append_drop]; exact h.2
  obtain ⟨d, h1, _⟩ := deep_prefix _ _ _ _ hs
  have hd := deep_pos _ _ _ (by omega) h1 (.inl (by
    intro e
    have h9 : (l.take (i + 1)).length = 0 := by rw [e]; rfl
    rw [List.length_take] at h9
    omega))
  obtain ⟨Q, R, e, hR, hq, hQ, hRd⟩ := part_ok _ _ d 1 rfl h1 (by omega) hd
  exact ⟨Q, R, e, hR, hq, hRd, d - 1, hQ, by rw [h1]; congr 1; omega⟩
theorem expr_Part_ev (l : List S52) (e : Int) (ho : OpsOk l) (hl : l.length ≤ maxLen) : Ev (fun k => expr_Part.f k l e) (partE l e) := by
  unfold expr_Part.f partE
  refine Ev.bind (expr_Check_ev l ho hl) ?_
  have hj : Ev (fun k => expr_Part.j0 k l e true) (-1) := by
    refine evShift ?_
    simp only [expr_Part.j0, if_true]
    exact evSome rfl
  cases he : exprS l with
  | false =>
    refine evNeg (by decide) ?_
    rw [if_neg (fun h => by cases h.1)]; exact hj
  | true =>
    refine evPos rfl ?_
    by_cases h1 : e < 0
    · rw [if_neg (fun h => by omega)]; exact evPos h1 hj
    · refine evNeg h1 ?_
      by_cases h2 : e ≥ l.length
      · rw [if_neg (fun h => by omega), decide_eq_true h2]; exact hj
      · rw [if_pos ⟨rfl, by omega, by omega⟩, decide_eq_false h2]
        refine evShift ?_
        simp only [expr_Part.j0, Bool.false_eq_true, if_false]
        obtain ⟨i, rfl⟩ := Int.eq_ofNat_of_zero_le (show 0 ≤ e by omega)
        have hi : i < l.length := by omega
        have hlen : l.length ≤ 15 := by
          have he2 := he
          simp only [exprS, Bool.and_eq_true, decide_eq_true_eq] at he2
          exact he2.1.2
        rw [Int.toNat_natCast]
        refine expr_Part_l0 l (by omega) i 1 hi (by omega) (by omega) ?_
        obtain ⟨Q, R, _, _, hq, _⟩ := part_in l he i hi
        rw [hq]; omega
end Go.Proofs.Ytconpnagoijacaa.P
end
section
namespace Go.Proofs.Ytconpnagoijacaa.P
open Go.RowKit Go.Proofs.YtconpnagoijacaaW.PrintWords Go.Proofs.YtconpnagoijacaaW.PrintLast Go.Proofs.YtconpnagoijacaaW.PrintMore
theorem ref_In_eq (a b c : Int) : constableref01_In.f a b c = some (decide (b ≤ a ∧ a ≤ c)) := by
  unfold constableref01_In.f
  split
  · congr 1; rw [decide_eq_decide]; omega
  · congr 1; symm; rw [decide_eq_false_iff_not]; omega
theorem abs_mul_abs (a b : Int) : (if a < -a then -a else a) * (if b < -b then -b else b) = if a * b < 0 then -(a * b) else a * b := by
  by_cases ha : a < -a <;> by_cases hb : b < -b <;> simp only [ha, hb, if_true, if_false]
  · have : 0 < a * b := Int.mul_pos_of_neg_of_neg (by omega) (by omega)
    rw [if_neg (by omega)]; exact Int.neg_mul_neg a b
  · have : a * b ≤ 0 := Int.mul_nonpos_of_nonpos_of_nonneg (by omega) (by omega)
    rw [Int.neg_mul]; split <;> omega
  · have : a * b ≤ 0 := Int.mul_nonpos_of_nonneg_of_nonpos (by omega) (by omega)
    rw [Int.mul_neg]; split <;> omega
  · have : 0 ≤ a * b := Int.mul_nonneg (by omega) (by omega)
    rw [if_neg (by omega)]
theorem ref_over {a b : Int} (ha : InB a) (hb : InB b) (hb0 : b ≠ 0) :
    (mx a (wrap64 (-a)) > wrap64 (Int.tdiv 4611686018427387904 (mx b (wrap64 (-b))))) ↔ ¬ InB (a * b) := by
  rw [InB_iff] at ha hb
  have e1 : wrap64 (-a) = -a := by unfold wrap64; omega
  have e2 : wrap64 (-b) = -b := by unfold wrap64; omega
  rw [e1, e2]
  have m1 : mx a (-a) = if a < -a then -a else a := rfl
  have m2 : mx b (-b) = if b < -b then -b else b := rfl
  have hm := abs_mul_abs a b
  rw [← m1, ← m2] at hm
  have p1 : 0 ≤ mx a (-a) := by rw [m1]; split <;> omega
  have p2 : 0 < mx b (-b) := by rw [m2]; split <;> omega
  generalize mx a (-a) = x at *
  generalize mx b (-b) = y at *
  rw [Int.tdiv_eq_ediv_of_nonneg (by decide)]
  have h1 : 4611686018427387904 / y ≤ 4611686018427387904 := Int.ediv_le_self _ (by decide)
  have h2 : 0 ≤ 4611686018427387904 / y := Int.ediv_nonneg (by decide) (by omega)
  have e3 : wrap64 (4611686018427387904 / y) = 4611686018427387904 / y := by unfold wrap64; omega
  rw [e3, InB_iff]
  have h3 : 4611686018427387904 / y < x ↔ 4611686018427387904 < x * y := Int.ediv_lt_iff_lt_mul p2
  rw [gt_iff_lt, h3, hm]
  split <;> omega
theorem ref_Do_eq (kind a b : Int) (k : Nat) : constableref01_Do.f (k + 5) kind a b = some (doS kind a b) := by
  unfold constableref01_Do.f doS
  simp only [constableref01_Do.j0, constableref01_Do.j1, constableref01_Do.j2, constableref01_Do.j3, constableref01_Do.j4, ref_In_eq, Option.bind_some]
  have i1 : decide (-4611686018427387904 ≤ a ∧ a ≤ 4611686018427387904) = decide (InB a) := rfl
  have i2 : decide (-4611686018427387904 ≤ b ∧ b ≤ 4611686018427387904) = decide (InB b) := rfl
  rw [i1, i2]
  by_cases ha : InB a
  · by_cases hb : InB b
    · simp only [ha, hb, decide_true, if_true, Bool.not_true, Bool.false_eq_true, if_false, and_self]
      have add : ∀ c : Int, InB c → (if c > 0 then (if a > (wrap64 (4611686018427387904 - c)) then (if true = true then some (0, 4) else some (wrap64 (a + c), 0)) else (if c < 0 then (if decide (a < (wrap64 ((-4611686018427387904) - c))) = true then some (0, 4) else some (wrap64 (a + c), 0)) else (some (wrap64 (a + c), 0)))) else (if c < 0 then (if decide (a < (wrap64 ((-4611686018427387904) - c))) = true then some (0, 4) else some (wrap64 (a + c), 0)) else (some (wrap64 (a + c), 0)))) = some (if InB (a + c) then (a + c, (0 : Int)) else (0, 4)) := by
        intro c hc
        have ha' := (InB_iff a).1 ha
        rw [InB_iff] at hc
        unfold wrap64
        by_cases p : c > 0
        · rw [if_pos p]
          split
          · rw [if_pos rfl, if_neg (by rw [InB_iff]; omega)]
          · rw [if_neg (by omega), if_pos (by rw [InB_iff]; omega)]; congr 2; omega
        · rw [if_neg p]
          split
          · simp only [decide_eq_true_eq]
            split
            · rw [if_neg (by rw [InB_iff]; omega)]
            · rw [if_pos (by rw [InB_iff]; omega)]; congr 2; omega
          · rw [if_pos (by rw [InB_iff]; omega)]; congr 2; omega
      have hn : wrap64 (-b) = -b := by rw [InB_iff] at hb; unfold wrap64; omega
      have a1 := add b hb
      have a2 := add (-b) (by rw [InB_iff] at *; omega)
      rw [hn]
      simp only [if_true] at a1 a2
      by_cases h3 : kind = 3
      · subst h3
        simp only [if_true, true_or]
        simp only [show ((3 : Int) = 4) = False by simp, if_false, beq_self_eq_true, if_true]
        exact a1
      · by_cases h4 : kind = 4
        · subst h4
          simp only [show ((4 : Int) = 3) = False by simp, if_false, true_or, or_true, if_true, beq_self_eq_true, Int.sub_eq_add_neg]
          exact a2
        · by_cases h5 : kind = 5
          · subst h5
            simp only [show ((5 : Int) = 3) = False by simp, show ((5 : Int) = 4) = False by simp, if_false, or_true, if_true]
            simp only [show ((5 : Int) == 3) = false by rfl, show ((5 : Int) != 5) = false by rfl, Bool.false_eq_true, if_false]
            by_cases a0 : a = 0
            · subst a0; simp [wrap64, InB_iff]
            · by_cases b0 : b = 0
              · subst b0; simp [wrap64, InB_iff]
              · have ro := ref_over ha hb b0
                rw [hn] at ro
                rw [if_neg a0, if_neg b0, if_neg]
                · by_cases ho : InB (a * b)
                  · rw [if_neg (by rw [ro]; exact not_not_intro ho), if_pos ho]
                    rw [InB_iff] at ho
                    congr 2
                    unfold wrap64; omega
                  · rw [if_pos (by rw [ro]; exact ho), if_neg ho]
                · have : mx b (-b) = if b < -b then -b else b := rfl
                  rw [this]; split <;> omega
          · simp [h3, h4, h5]
    · simp only [ha, hb, decide_true, decide_false, if_true, Bool.not_false, and_false, if_false]
      by_cases h3 : kind = 3
      · simp [h3]
      · by_cases h4 : kind = 4
        · simp [h4]
        · by_cases h5 : kind = 5 <;> simp [h3, h4, h5]
  · simp only [ha, decide_false, Bool.false_eq_true, if_false, if_true, false_and]
    by_cases h3 : kind = 3
    · simp [h3]
    · by_cases h4 : kind = 4
      · simp [h4]
      · by_cases h5 : kind = 5 <;> simp [h3, h4, h5]
theorem ref_Do_ev (kind a b : Int) : Ev (fun k => constableref01_Do.f k kind a b) (doS kind a b) := Ev.of (constableref01_Do.mono _ _ _) (ref_Do_eq kind a b 0)
end Go.Proofs.Ytconpnagoijacaa.P
end
section
namespace Go.Proofs.Ytconpnagoijacaa.P
open Go.RowKit Go.Proofs.YtconpnagoijacaaW.PrintWords Go.Proofs.YtconpnagoijacaaW.PrintLast Go.Proofs.YtconpnagoijacaaW.PrintMore
theorem ref_Lower_eq (c : Int) : constableref01_Lower.f c = some (smallI c) := by
  unfold constableref01_Lower.f smallI
  split
  · congr 1; rw [decide_eq_decide]; omega
  · congr 1; symm; rw [decide_eq_false_iff_not]; omega
theorem ref_Upper_eq (c : Int) : constableref01_Upper.f c = some (largeI c) := by
  unfold constableref01_Upper.f largeI
  split
  · congr 1; rw [decide_eq_decide]; omega
  · congr 1; symm; rw [decide_eq_false_iff_not]; omega
theorem ref_Digit_eq (c : Int) : constableref01_Digit.f c = some (digitI c) := by
  unfold constableref01_Digit.f digitI
  split
  · congr 1; rw [decide_eq_decide]; omega
  · congr 1; symm; rw [decide_eq_false_iff_not]; omega
theorem ref_inner_eq (c : Int) : constableref01_inner.f c = some (innerI c) := by
  unfold constableref01_inner.f innerI
  simp only [ref_Lower_eq, ref_Upper_eq, ref_Digit_eq, Option.bind_some]
  cases smallI c <;> cases largeI c <;> cases digitI c <;> simp
theorem ref_Word_l0 (s : ByteArray) (hs : s.size ≤ maxLen) : ∀ i : Nat, i ≤ s.size → Ev (fun k => constableref01_Word.l0 k s i) (((bytesOf s).drop i).all innerI) := by
  unfold maxLen at hs
  refine back_ind s.size (fun k i => constableref01_Word.l0 k s i) _ ?_ ?_
  · refine evShift ?_
    simp only [constableref01_Word.l0]
    refine evNeg (by omega) (evSome (by rw [drop_end]; rfl))
  · intro i hi ih
    refine evShift ?_
    simp only [constableref01_Word.l0, ref_inner_eq, Option.bind_some]
    refine evPos (by omega) (evPos (by omega) ?_)
    rw [all_drop hi, wrap_succ hi (by omega)]
    by_cases h1 : innerI (bt s i) = true
    · rw [h1]; simpa using ih
    · simp [h1]; exact evSome rfl
theorem not_both (c : Int) : largeI c = true → smallI c = false := by
  unfold largeI smallI
  intro h
  rw [decide_eq_true_eq] at h
  exact decide_eq_false (by omega)
theorem ref_Word_ev (s : ByteArray) (large : Bool) (hs : s.size ≤ maxLen) : Ev (fun k => constableref01_Word.f k s large) (wordS large s) := by
  have hl := ref_Word_l0 s hs 0 (by omega)
  simp only [List.drop_zero, Int.natCast_zero] at hl
  have hj : Ev (fun k => constableref01_Word.j0 k s true) false := by
    refine evShift ?_
    simp only [constableref01_Word.j0, if_true]
    exact evSome rfl
  have hj2 : Ev (fun k => constableref01_Word.j0 k s false) ((bytesOf s).all innerI) := by
    refine evShift ?_
    simp only [constableref01_Word.j0, Bool.false_eq_true, if_false]
    exact hl
  unfold constableref01_Word.f wordS
  simp only [ref_In_eq, ref_Upper_eq, ref_Lower_eq, Option.bind_some]
  by_cases h1 : 1 ≤ s.size ∧ s.size ≤ 24
  · have hd : decide (1 ≤ s.size ∧ s.size ≤ 24) = true := decide_eq_true h1
    have hd' : decide ((1 : Int) ≤ s.size ∧ (s.size : Int) ≤ 24) = true := decide_eq_true (by omega)
    rw [hd, hd']
    refine evPos rfl (evPos (by omega) ?_)
    have hb := not_both (bt s 0)
    cases large <;> cases h2 : largeI (bt s 0) <;> simp [h2] at hb ⊢
    · cases h3 : smallI (bt s 0)
      · simp; exact hj
      · simp; exact hj2
    · rw [hb]; simp; exact hj
    · exact hj
    · exact hj2
  · have hd : decide (1 ≤ s.size ∧ s.size ≤ 24) = false := decide_eq_false h1
    have hd' : decide ((1 : Int) ≤ s.size ∧ (s.size : Int) ≤ 24) = false := decide_eq_false (by omega)
    rw [hd, hd']
    exact evNeg (by decide) hj
theorem ref_Value_l0 (a b : Int) (s : ByteArray) (hs : s.size ≤ maxLen) : ∀ i : Nat, i ≤ s.size → Ev (fun k => constableref01_Value.l0 k i a b s) (((bytesOf s).drop i).all plainI) := by
  unfold maxLen at hs
  refine back_ind s.size (fun k i => constableref01_Value.l0 k i a b s) _ ?_ ?_
  · refine evShift ?_
    simp only [constableref01_Value.l0]
    refine evNeg (by omega) (evSome (by rw [drop_end]; rfl))
  · intro i hi ih
    refine evShift ?_
    simp only [constableref01_Value.l0, ref_In_eq, Option.bind_some]
    refine evPos (by omega) (evPos (by omega) ?_)
    rw [all_drop hi, wrap_succ hi (by omega)]
    have hr := bt_range s i
    have hw : wrap64 (bt s i) = bt s i := by unfold wrap64; omega
    rw [hw]
    have e : decide (32 ≤ bt s i ∧ bt s i ≤ 126) = plainI (bt s i) := rfl
    rw [e]
    by_cases h1 : plainI (bt s i) = true
    · rw [h1]; simpa using ih
    · simp [h1]; exact evSome rfl
theorem ref_Value_ev (kind n : Int) (s : ByteArray) (hs : s.size ≤ maxLen) : Ev (fun k => constableref01_Value.f k kind n s) (valS kind n s) := by
  unfold constableref01_Value.f valS
  by_cases h1 : kind = 1
  · refine evPos h1 ?_
    rw [if_pos h1]
    simp only [ref_In_eq, Option.bind_some]
    have i1 : decide (-4611686018427387904 ≤ n ∧ n ≤ 4611686018427387904) = decide (InB n) := rfl
    rw [i1]
    by_cases h2 : InB n
    · rw [decide_eq_true h2]
      refine evPos rfl (evSome ?_)
      rw [Bool.eq_iff_iff]
      simp [← size_zero]
    · rw [decide_eq_false h2]
      exact evNeg (by decide) (evSome rfl)
  · refine evNeg h1 ?_
    rw [if_neg h1]
    by_cases h2 : kind = 2
    · refine evPos h2 ?_
      rw [if_pos h2]
      by_cases h3 : n = 0
      · refine evPos h3 (Ev.bind (ref_Word_ev s false hs) (evSome ?_))
        rw [decide_eq_true h3]; simp
      · refine evNeg h3 (evSome ?_)
        rw [decide_eq_false h3]; rfl
    · refine evNeg h2 ?_
      rw [if_neg h2]
      by_cases h3 : kind = 3
      · refine evPos h3 ?_
        rw [if_pos h3]
        by_cases h4 : n = 0
        · refine evPos h4 (evShift ?_)
          rw [decide_eq_true h4]
          simp only [constableref01_Value.j0]
          by_cases h5 : (s.size : Int) > 60
          · refine evPos (decide_eq_true h5) (evSome ?_)
            have : decide (s.size ≤ 60) = false := decide_eq_false (by omega)
            rw [this]; simp
          · refine evNeg (by rw [decide_eq_false h5]; decide) ?_
            have : decide (s.size ≤ 60) = true := decide_eq_true (by omega)
            rw [this]
            have := ref_Value_l0 kind n s hs 0 (by omega)
            simpa using this
        · refine evNeg h4 (evShift ?_)
          simp only [constableref01_Value.j0, if_true]
          refine evSome ?_
          rw [decide_eq_false h4]; rfl
      · refine evNeg h3 (evSome ?_)
        rw [if_neg h3]
end Go.Proofs.Ytconpnagoijacaa.P
end
section
namespace Go.Proofs.Ytconpnagoijacaa.P
open Go.RowKit Go.Proofs.YtconpnagoijacaaW.PrintWords Go.Proofs.YtconpnagoijacaaW.PrintLast Go.Proofs.YtconpnagoijacaaW.PrintMore
def cmpS : List Int → List Int → Int
  | [], [] => 0
  | [], _ :: _ => -1
  | _ :: _, [] => 1
  | x :: a, y :: b => if x = y then cmpS a b else if x < y then -1 else 1
theorem ref_order_eq (a b : Int) : constableref01_order.f a b = some (if a < b then -1 else if a > b then 1 else 0) := by
  unfold constableref01_order.f
  split
  · rfl
  · split <;> rfl
theorem ref_Strings_ev (a b : ByteArray) (ha : a.size ≤ maxLen) (hb : b.size ≤ maxLen) : Ev (fun k => constableref01_Strings.f k a b) (cmpS (bytesOf a) (bytesOf b)) := by
  unfold maxLen at ha hb
  have h : ∀ (d i : Nat), i + d = a.size → i ≤ b.size → Ev (fun k => constableref01_Strings.l0 k a b i) (cmpS ((bytesOf a).drop i) ((bytesOf b).drop i)) := by
    intro d
    induction d with
    | zero =>
      intro i hi hib
      refine evShift ?_
      simp only [constableref01_Strings.l0]
      refine evNeg (by omega) (evShift ?_)
      simp only [constableref01_Strings.j1, Bool.false_eq_true, if_false, ref_order_eq, Option.bind_some]
      refine evSome ?_
      rw [List.drop_of_length_le (by rw [len_codes]; omega)]
      by_cases h2 : i < b.size
      · obtain ⟨y, hy, _⟩ := codes_split b i h2
        rw [hy]
        simp only [cmpS]
        rw [if_pos (by omega)]
      · rw [List.drop_of_length_le (by rw [len_codes]; omega)]
        simp only [cmpS]
        rw [if_neg (by omega), if_neg (by omega)]
    | succ d ih =>
      intro i hi hib
      have hlt : i < a.size := by omega
      obtain ⟨x, hx, ex⟩ := codes_split a i hlt
      refine evShift ?_
      simp only [constableref01_Strings.l0]
      refine evPos (by omega) (evShift ?_)
      simp only [constableref01_Strings.j1]
      by_cases h2 : i < b.size
      · obtain ⟨y, hy, ey⟩ := codes_split b i h2
        rw [hx, hy, ex, ey]
        simp only [cmpS]
        refine evPos (by rw [decide_eq_true_eq]; omega) (evPos (by omega) (evPos (by omega) (evPos (by omega) ?_)))
        have r1 := bt_range a i
        have r2 := bt_range b i
        have w1 : wrap64 x = x := by unfold wrap64; omega
        have w2 : wrap64 y = y := by unfold wrap64; omega
        rw [w1, w2]
        refine evIf (fun e => ?_) (fun e => ?_)
        · rw [if_pos e, wrap_succ hlt (by omega)]
          exact ih (i + 1) (by omega) (by omega)
        · rw [if_neg e]
          simp only [ref_order_eq, Option.bind_some]
          refine evSome ?_
          by_cases h3 : x < y
          · rw [if_pos h3, if_pos h3]
          · rw [if_neg h3, if_neg h3, if_pos (by omega)]
      · refine evNeg (by rw [decide_eq_true_eq]; omega) ?_
        simp only [ref_order_eq, Option.bind_some]
        refine evSome ?_
        rw [hx, List.drop_of_length_le (l := bytesOf b) (by rw [len_codes]; omega)]
        simp only [cmpS]
        rw [if_neg (by omega), if_pos (by omega)]
  have h0 := h a.size 0 (by omega) (by omega)
  simpa [constableref01_Strings.f] using h0
theorem less_cmp : ∀ a b : List UInt8, Op.bytesLess a b = decide (cmpS (a.map fun c => ((c.toNat : Nat) : Int)) (b.map fun c => ((c.toNat : Nat) : Int)) < 0)
  | [], [] => rfl
  | [], _ :: _ => rfl
  | _ :: _, [] => rfl
  | x :: a, y :: b => by
    simp only [Op.bytesLess, List.map_cons, cmpS]
    by_cases e : x = y
    · subst e
      simp only [if_true]
      rw [← less_cmp a b]; simp
    · have h1 : ¬ ((x.toNat : Nat) : Int) = ((y.toNat : Nat) : Int) := fun h => e (UInt8.toNat_inj.1 (by omega))
      have h2 : (x == y) = false := beq_eq_false_iff_ne.mpr e
      rw [if_neg h1, h2, Bool.false_and, Bool.or_false]
      by_cases h3 : x < y
      · have h4 : ((x.toNat : Nat) : Int) < ((y.toNat : Nat) : Int) := by have := UInt8.lt_iff_toNat_lt.1 h3; omega
        rw [if_pos h4, decide_eq_true h3]; rfl
      · have h4 : ¬ ((x.toNat : Nat) : Int) < ((y.toNat : Nat) : Int) := fun h => h3 (UInt8.lt_iff_toNat_lt.2 (by omega))
        rw [if_neg h4, decide_eq_false h3]; rfl
theorem less_codes (s t : ByteArray) : Op.bytesLess s.toList t.toList = decide (cmpS (bytesOf s) (bytesOf t) < 0) := by
  rw [tl_data, tl_data]; exact less_cmp _ _
theorem ref_zero (v : S40) : (!(v.f0 == 0) || (!(v.f1 == 0) || (!(v.f2.toList == ([] : List UInt8))))) = !zeroS v := by
  unfold zeroS
  rw [tl_beq_nil]
  by_cases h1 : v.f0 = 0 <;> by_cases h2 : v.f1 = 0 <;> by_cases h3 : v.f2 = ⟨#[]⟩ <;> simp [h1, h2, h3]
theorem size_pos_iff (s : ByteArray) : ((s.size : Int) > 0) ↔ ¬ s = ⟨#[]⟩ := by
  rw [← size_zero]; omega
theorem ref_Expr_l0 (l : List S52) (ho : OpsOk l) (hl : l.length ≤ 1000000) : ∀ (d i : Nat) (n : Int), i + d = l.length → 0 ≤ n → n ≤ i →
    Ev (fun k => constableref01_Expr.l0 k l n i) (decide (deepS n (l.drop i) = some 1)) := by
  intro d
  induction d with
  | zero =>
    intro i n hi h0 h1
    refine evShift ?_
    simp only [constableref01_Expr.l0]
    refine evNeg (by omega) (evSome ?_)
    rw [List.drop_of_length_le (by omega)]
    simp only [deepS, Option.some.injEq]
    rw [Bool.eq_iff_iff]; simp
  | succ d ih =>
    intro i n hi h0 h1
    have hlt : i < l.length := by omega
    obtain ⟨b1, b2⟩ := ho l[i] (List.getElem_mem hlt)
    have i1 := fun (m : Int) h0 h1 => ih (i + 1) m (by omega) h0 h1
    refine evShift ?_
    simp only [constableref01_Expr.l0]
    refine evPos (by omega) (evPos (by omega) ?_)
    simp only [rdO_nth l i hlt]
    rw [drop_at l i hlt, wrap_succ hlt (by omega)]
    have w1 : wrap64 (n + 1) = n + 1 := by unfold wrap64; omega
    rw [w1]
    simp only [deepS, ref_zero]
    refine evIf (fun k1 => ?_) (fun k1 => ?_)
    · have hp : pushS l[i] = true := decide_eq_true (.inl k1)
      have hop : opS l[i] = (wordS true l[i].f1 && zeroS l[i].f2) := by unfold opS; rw [if_pos k1]
      simp only [hp, hop, Bool.true_or, Bool.and_true, if_true]
      refine Ev.bind (ref_Word_ev _ true b1) (evCond (fun hw => ?_) (fun hw => evSome (by simp [hw])))
      refine evCond (fun hz => evSome ?_) (fun hz => ?_)
      · have : zeroS l[i].f2 = false := by simpa using hz
        simp [this]
      · have : zeroS l[i].f2 = true := by simpa using hz
        simp only [hw, this, Bool.and_self, if_true]
        exact i1 (n + 1) (by omega) (by omega)
    · refine evIf (fun k2 => ?_) (fun k2 => ?_)
      · have hp : pushS l[i] = true := decide_eq_true (.inr k2)
        have hop : opS l[i] = (decide (l[i].f1 = ⟨#[]⟩) && valS l[i].f2.f0 l[i].f2.f1 l[i].f2.f2) := by unfold opS; rw [if_neg k1, if_pos k2]
        simp only [hp, hop, Bool.true_or, Bool.and_true, if_true]
        refine evIf (fun hz => evSome ?_) (fun hz => ?_)
        · rw [size_pos_iff] at hz; simp [hz]
        · rw [size_pos_iff, Classical.not_not] at hz
          refine Ev.bind (ref_Value_ev _ _ _ b2) (evCond (fun hv => ?_) (fun hv => evSome (by simp [hv])))
          simp only [hz, hv, decide_true, Bool.and_self, if_true]
          exact i1 (n + 1) (by omega) (by omega)
      · have hp : pushS l[i] = false := decide_eq_false (by omega)
        have hop : opS l[i] = (decide (l[i].f0 = 3 ∨ l[i].f0 = 4 ∨ l[i].f0 = 5) && (decide (l[i].f1 = ⟨#[]⟩) && zeroS l[i].f2)) := by unfold opS; rw [if_neg k1, if_neg k2]
        have j1 : ∀ x : Bool, x = decide (l[i].f0 = 3 ∨ l[i].f0 = 4 ∨ l[i].f0 = 5) → Ev (fun k => constableref01_Expr.j1 k l n i x l[i].f0 l[i].f1 l[i].f2.f0 l[i].f2.f1 l[i].f2.f2)
            (decide ((if opS l[i] && (pushS l[i] || decide (2 ≤ n)) then deepS (if pushS l[i] then n + 1 else n - 1) (l.drop (i + 1)) else none) = some 1)) := by
          intro x hx
          refine evShift ?_
          simp only [constableref01_Expr.j1, ref_zero]
          rw [hop, ← hx, hp]
          simp only [Bool.false_or, Bool.false_eq_true, if_false]
          refine evCond (fun hx2 => ?_) (fun hx2 => evSome (by simp [hx2]))
          rw [hx2, wrap_succ hlt (by omega)]
          refine evIf (fun hz => evSome ?_) (fun hz => ?_)
          · rw [size_pos_iff] at hz; simp [hz]
          · rw [size_pos_iff, Classical.not_not] at hz
            refine evCond (fun hz2 => evSome ?_) (fun hz2 => ?_)
            · have : zeroS l[i].f2 = false := by simpa using hz2
              simp [this]
            · have hz3 : zeroS l[i].f2 = true := by simpa using hz2
              refine evIf (fun h2 => evSome ?_) (fun h2 => ?_)
              · have : ¬ (2 ≤ n) := by omega
                simp [this]
              · have h3 : 2 ≤ n := by omega
                have w2 : wrap64 (n - 1) = n - 1 := by unfold wrap64; omega
                rw [w2]
                simp only [hz, hz3, h3, decide_true, Bool.and_self, if_true]
                exact i1 (n - 1) (by omega) (by omega)
        refine evIf (fun k3 => ?_) (fun k3 => ?_)
        · exact j1 _ (by rw [k3]; rfl)
        · refine evIf (fun k4 => ?_) (fun k4 => ?_)
          · exact j1 _ (by rw [k4]; rfl)
          · exact j1 _ (by rw [Bool.eq_iff_iff]; simp [k3, k4])
theorem ref_Expr_ev (l : List S52) (ho : OpsOk l) : Ev (fun k => constableref01_Expr.f k l) (exprS l) := by
  unfold constableref01_Expr.f exprS
  simp only [ref_In_eq, Option.bind_some]
  refine evIf (fun h => ?_) (fun h => ?_)
  · rw [decide_eq_true_eq] at h
    rw [decide_eq_true (by omega), Bool.true_and]
    have := ref_Expr_l0 l ho (by omega) l.length 0 0 (by omega) (by omega) (by omega)
    simpa using this
  · rw [decide_eq_true_eq] at h
    refine evSome ?_
    rw [decide_eq_false (by omega), Bool.false_and]
theorem ref_Binds_l0 (l : List S62) (ho : BindsOk l) (hl : l.length ≤ 1000000) : ∀ (d : Nat) (i : Nat), i + d = l.length →
    Ev (fun k => constableref01_Binds.l0 k l i) (restS (if h : 0 < i ∧ i - 1 < l.length then some (l[i - 1]'h.2).f0 else none) (l.drop i)) := by
  intro d
  induction d with
  | zero =>
    intro i hi
    refine evShift ?_
    simp only [constableref01_Binds.l0]
    refine evNeg (by omega) (evSome ?_)
    rw [List.drop_of_length_le (by omega)]
    simp [restS]
  | succ d ih =>
    intro i hi
    have hlt : i < l.length := by omega
    obtain ⟨b1, b2⟩ := ho l[i] (List.getElem_mem hlt)
    refine evShift ?_
    simp only [constableref01_Binds.l0]
    refine evPos (by omega) (evPos (by omega) ?_)
    simp only [rdB_nth l i hlt]
    rw [drop_at l i hlt]
    have hn := ih (i + 1) (by omega)
    rw [dif_pos (by omega)] at hn
    simp only [Nat.add_sub_cancel] at hn
    rw [wrap_succ hlt (by omega)]
    have hb0 : bindS l[i] = (wordS true l[i].f0 && valS l[i].f1.f0 l[i].f1.f1 l[i].f1.f2) := rfl
    by_cases h0 : 0 < i
    · rw [dif_pos ⟨h0, by omega⟩]
      simp only [restS, hb0]
      refine Ev.bind (ref_Word_ev _ true b1) (evCond (fun h1 => ?_) (fun h1 => evSome (by simp [h1])))
      refine Ev.bind (ref_Value_ev _ _ _ b2) (evCond (fun h2 => ?_) (fun h2 => evSome (by simp [h2])))
      refine evPos (by omega) ?_
      have e : wrap64 ((i : Int) - 1) = ((i - 1 : Nat) : Int) := by unfold wrap64; omega
      rw [e]
      refine evPos (by omega) (evPos (by omega) ?_)
      rw [rdB_nth l (i - 1) (by omega)]
      refine Ev.bind (ref_Strings_ev _ _ (ho _ (List.getElem_mem _)).1 b1) ?_
      rw [less_codes]
      refine evIf (fun hc => evSome ?_) (fun hc => ?_)
      · rw [decide_eq_false (by omega)]; simp
      · rw [decide_eq_true (by omega)]
        simpa [h1, h2] using hn
    · rw [dif_neg (by omega)]
      simp only [restS, hb0]
      refine Ev.bind (ref_Word_ev _ true b1) (evCond (fun h1 => ?_) (fun h1 => evSome (by simp [h1])))
      refine Ev.bind (ref_Value_ev _ _ _ b2) (evCond (fun h2 => ?_) (fun h2 => evSome (by simp [h2])))
      refine evNeg (by omega) ?_
      simpa [h1, h2] using hn
theorem ref_Binds_ev (l : List S62) (ho : BindsOk l) : Ev (fun k => constableref01_Binds.f k l) (bindsS l) := by
  unfold constableref01_Binds.f bindsS
  refine evIf (fun h => evSome ?_) (fun h => ?_)
  · rw [decide_eq_false (by omega)]; rfl
  · rw [decide_eq_true (by omega)]
    have := ref_Binds_l0 l ho (by omega) l.length 0 (by omega)
    rw [dif_neg (by omega)] at this
    simpa [(rest_rising l).1] using this
theorem ref_Get_ev (l : List S62) (s : ByteArray) (hl : l.length ≤ maxLen) : Ev (fun k => constableref01_Get.f k l s) (match getS l s with | some v => (v.f0, v.f1, v.f2, true) | none => (0, 0, ⟨#[]⟩, false)) := by
  unfold maxLen at hl
  have h : ∀ i : Nat, i ≤ l.length → Ev (fun k => constableref01_Get.l0 k l s i) (match getS (l.drop i) s with | some v => (v.f0, v.f1, v.f2, true) | none => (0, 0, ⟨#[]⟩, false)) := by
    refine back_ind l.length (fun k i => constableref01_Get.l0 k l s i) _ ?_ ?_
    · refine evShift ?_
      simp only [constableref01_Get.l0]
      refine evNeg (by omega) (evSome ?_)
      rw [List.drop_length]; rfl
    · intro i hi ih
      refine evShift ?_
      simp only [constableref01_Get.l0]
      refine evPos (by omega) (evPos (by omega) ?_)
      rw [rdB_nth l i hi, drop_at l i hi, wrap_succ hi (by omega)]
      by_cases e : l[i].f0 = s
      · refine evPos (by rw [e]) (evSome ?_)
        rw [getS_cons, if_pos e]
      · refine evNeg (fun h => e (tl_inj.1 h)) ?_
        rw [getS_cons, if_neg e]; exact ih
  have := h 0 (by omega)
  simpa [constableref01_Get.f] using this
theorem ref_Eval_l0 (l : List S52) (b : List S62) (hl : l.length ≤ 1000000) (hb : b.length ≤ maxLen) : ∀ (d i : Nat) (st : List S40), i + d = l.length → st.length ≤ i → deepS st.length (l.drop i) = some 1 →
    Ev (fun k => constableref01_Eval.l0 k l b st.reverse i) (tupV (evalS b st (l.drop i)).1 (evalS b st (l.drop i)).2) := by
  intro d
  induction d with
  | zero =>
    intro i st hi h1 hd
    rw [List.drop_of_length_le (by omega)] at hd ⊢
    simp only [deepS, Option.some.injEq] at hd
    match st, hd with
    | [v], _ =>
      refine evShift ?_
      simp only [constableref01_Eval.l0]
      exact evNeg (by omega) (evPos (by simp) (evSome rfl))
    | [], hd => simp at hd
    | _ :: _ :: _, hd => simp at hd; omega
  | succ d ih =>
    intro i st hi h1 hd
    have hlt : i < l.length := by omega
    rw [drop_at l i hlt] at hd ⊢
    refine evShift ?_
    simp only [constableref01_Eval.l0]
    refine evPos (by omega) (evPos (by omega) ?_)
    simp only [rdO_nth l i hlt]
    rw [wrap_succ hlt (by omega)]
    have next : pushS l[i] = true → (pushV b l[i]).2 = 0 → Ev (fun k => constableref01_Eval.l0 k l b (st.reverse ++ [(pushV b l[i]).1]) ((i + 1 : Nat) : Int)) (tupV (evalS b st (l[i] :: l.drop (i + 1))).1 (evalS b st (l[i] :: l.drop (i + 1))).2) := by
      intro hp he
      obtain ⟨_, hd2⟩ := deep_push hd hp
      simp only [evalS, hp, if_true, he]
      have := ih (i + 1) ((pushV b l[i]).1 :: st) (by omega) (by simp; omega) (by simpa using hd2)
      rw [List.reverse_cons] at this
      exact this
    refine evIf (fun k1 => ?_) (fun k1 => ?_)
    · have hp : pushS l[i] = true := decide_eq_true (.inl k1)
      refine Ev.bind (ref_Get_ev b l[i].f1 hb) ?_
      cases hg : getS b l[i].f1 with
      | some v =>
        have hpv : pushV b l[i] = (v, 0) := by unfold pushV; rw [if_neg (by omega), hg]
        refine evPos rfl (evPos (by simp; omega) ?_)
        have := next hp (by rw [hpv])
        rw [hpv] at this
        exact this
      | none =>
        have hpv : pushV b l[i] = (zV, 5) := by unfold pushV; rw [if_neg (by omega), hg]
        refine evNeg (by decide) (evSome ?_)
        simp only [evalS, hp, if_true, hpv]
        rfl
    · refine evIf (fun k2 => ?_) (fun k2 => ?_)
      · have hp : pushS l[i] = true := decide_eq_true (.inr k2)
        have hpv : pushV b l[i] = (l[i].f2, 0) := by unfold pushV; rw [if_pos k2]
        refine evPos (by simp; omega) ?_
        have := next hp (by rw [hpv])
        rw [hpv] at this
        exact this
      · have hp : pushS l[i] = false := decide_eq_false (by omega)
        obtain ⟨_, h2, hd2⟩ := deep_reck hd hp
        match st, h1, h2, hd2 with
        | [], _, h2, _ => simp at h2
        | [_], _, h2, _ => simp at h2
        | y :: x :: st, h1, h2, hd2 =>
          have e : (y :: x :: st).reverse = st.reverse ++ x :: y :: [] := by simp
          have e' : (y :: x :: st).reverse = (st.reverse ++ [x]) ++ y :: [] := by simp
          have w1 : wrap64 (((y :: x :: st).reverse.length : Int) - 2) = (st.reverse.length : Int) := by simp at h1 ⊢; unfold wrap64; omega
          have w2 : wrap64 (((y :: x :: st).reverse.length : Int) - 1) = ((st.reverse ++ [x]).length : Int) := by simp at h1 ⊢; unfold wrap64; omega
          rw [w1, w2]
          refine evPos (by omega) (evPos (by simp; omega) (evPos (by omega) (evPos (by simp) ?_)))
          rw [show rd_T40 (y :: x :: st).reverse (st.reverse.length : Int) = x from by rw [e]; exact rdV_mid _ _ _ _ rfl]
          rw [show rd_T40 (y :: x :: st).reverse ((st.reverse ++ [x]).length : Int) = y from by rw [e']; exact rdV_mid _ _ _ _ rfl]
          have bad : reckV l[i].f0 x y = (zV, 3) → Ev (fun k => constableref01_Eval.j1 k l b (y :: x :: st).reverse i true x.f0 x.f1 x.f2 y.f0 y.f1 y.f2) (tupV (evalS b (y :: x :: st) (l[i] :: l.drop (i + 1))).1 (evalS b (y :: x :: st) (l[i] :: l.drop (i + 1))).2) := by
            intro hr
            refine evShift ?_
            simp only [constableref01_Eval.j1, if_true]
            refine evSome ?_
            simp only [evalS, hp, Bool.false_eq_true, if_false, hr]
            rfl
          refine evIf (fun x1 => ?_) (fun x1 => ?_)
          · by_cases y1 : y.f0 = 1
            · have hy : (y.f0 != 1) = false := by simpa using y1
              rw [hy]
              refine evShift ?_
              simp only [constableref01_Eval.j1, Bool.false_eq_true, if_false]
              refine evPos (by omega) (evPos (by omega) ?_)
              rw [rdO_nth l i hlt]
              refine Ev.bind (ref_Do_ev _ _ _) ?_
              have hr : reckV l[i].f0 x y = if (doS l[i].f0 x.f1 y.f1).2 = 0 then (⟨1, (doS l[i].f0 x.f1 y.f1).1, ⟨#[]⟩⟩, 0) else (zV, (doS l[i].f0 x.f1 y.f1).2) := by unfold reckV; rw [if_pos ⟨x1, y1⟩]
              refine evIf (fun he => ?_) (fun he => ?_)
              · rw [if_pos he] at hr
                simp only [evalS, hp, Bool.false_eq_true, if_false, hr, if_true]
                rw [w1]
                have ht : (y :: x :: st).reverse.take ((st.reverse.length : Int)).toNat = st.reverse := by rw [e, Int.toNat_natCast, List.take_left]
                refine evPos (by omega) (evPos (by simp; omega) ?_)
                rw [ht, wrap_succ hlt (by omega)]
                refine evBind0 rfl (evPos (by simp at h1 ⊢; omega) ?_)
                have := ih (i + 1) ((⟨1, (doS l[i].f0 x.f1 y.f1).1, ⟨#[]⟩⟩ : S40) :: st) (by omega) (by simp at h1 ⊢; omega) (by
                  rw [← hd2]; congr 1; simp only [List.length_cons]; omega)
                rw [List.reverse_cons] at this
                exact this
              · rw [if_neg he] at hr
                simp only [evalS, hp, Bool.false_eq_true, if_false, hr, if_neg he]
                exact evSome rfl
            · have hy : (y.f0 != 1) = true := by simpa using y1
              rw [hy]
              exact bad (by unfold reckV; rw [if_neg (fun h => y1 h.2)])
          · exact bad (by unfold reckV; rw [if_neg (fun h => x1 h.1)])
theorem ref_Eval_ev (l : List S52) (b : List S62) (hl : exprS l = true) (hb : b.length ≤ maxLen) :
    Ev (fun k => constableref01_Eval.f k l b) (tupV (evalS b [] l).1 (evalS b [] l).2) := by
  simp only [exprS, Bool.and_eq_true, decide_eq_true_eq] at hl
  have := ref_Eval_l0 l b (by omega) hb l.length 0 [] (by omega) (by simp) (by simpa using hl.2)
  simpa [constableref01_Eval.f] using this
theorem twinOps_eq (l : List S52) (h : l.length ≤ 1000000) : constablekeep_TwinOps.f l = some l := by
  unfold constablekeep_TwinOps.f
  rw [if_pos (by simp; omega)]; rfl
theorem twinBinds_eq (l : List S62) (h : l.length ≤ 1000000) : constablekeep_TwinBinds.f l = some l := by
  unfold constablekeep_TwinBinds.f
  rw [if_pos (by simp; omega)]; rfl
theorem keep_Texts_ev (a b : List ByteArray) (h : a.length ≤ 1000000) (hab : a = b) : Ev (fun k => constablekeep_Texts.f k a b) true := by
  subst hab
  have h1 : ∀ i : Nat, i ≤ a.length → Ev (fun k => constablekeep_Texts.l0 k a a i) true := by
    refine back_ind a.length (fun k i => constablekeep_Texts.l0 k a a i) (fun _ => true) ?_ ?_
    · refine evShift ?_
      simp only [constablekeep_Texts.l0]
      exact evNeg (by omega) (evSome rfl)
    · intro i hi ih
      refine evShift ?_
      simp only [constablekeep_Texts.l0]
      refine evPos (by omega) (evPos (by omega) (evPos (by omega) (evPos (by simp) ?_)))
      rw [wrap_succ hi (by omega)]; exact ih
  exact evPos rfl (h1 0 (by omega))
theorem keep_Ops_ev (a : List S52) (h : a.length ≤ 1000000) : Ev (fun k => constablekeep_Ops.f k a a) true := by
  have h1 : ∀ i : Nat, i ≤ a.length → Ev (fun k => constablekeep_Ops.l0 k a a i) true := by
    refine back_ind a.length (fun k i => constablekeep_Ops.l0 k a a i) (fun _ => true) ?_ ?_
    · refine evShift ?_
      simp only [constablekeep_Ops.l0]
      exact evNeg (by omega) (evSome rfl)
    · intro i hi ih
      refine evShift ?_
      simp only [constablekeep_Ops.l0]
      refine evPos (by omega) (evPos (by omega) (evPos (by omega) (evNeg (by simp) ?_)))
      rw [wrap_succ hi (by omega)]; exact ih
  exact evPos rfl (h1 0 (by omega))
theorem keep_Binds_ev (a : List S62) (h : a.length ≤ 1000000) : Ev (fun k => constablekeep_Binds.f k a a) true := by
  have h1 : ∀ i : Nat, i ≤ a.length → Ev (fun k => constablekeep_Binds.l0 k a a i) true := by
    refine back_ind a.length (fun k i => constablekeep_Binds.l0 k a a i) (fun _ => true) ?_ ?_
    · refine evShift ?_
      simp only [constablekeep_Binds.l0]
      exact evNeg (by omega) (evSome rfl)
    · intro i hi ih
      refine evShift ?_
      simp only [constablekeep_Binds.l0]
      refine evPos (by omega) (evPos (by omega) (evPos (by omega) (evNeg (by simp) ?_)))
      rw [wrap_succ hi (by omega)]; exact ih
  exact evPos rfl (h1 0 (by omega))
theorem ref_With_ev (l : List ByteArray) (s : ByteArray) (h : l.length ≤ 1000000) : Ev (fun k => constableref01_With.f k l s) (if (decide (s = ⟨#[]⟩) || l.any fun x => decide (x = s)) then l else l ++ [s]) := by
  have h1 : ∀ i : Nat, i ≤ l.length → Ev (fun k => constableref01_With.l0 k l s i) (if (l.drop i).any (fun x => decide (x = s)) then l else l ++ [s]) := by
    refine back_ind l.length (fun k i => constableref01_With.l0 k l s i) _ ?_ ?_
    · refine evShift ?_
      simp only [constableref01_With.l0]
      refine evNeg (by omega) (evPos (by omega) (evSome ?_))
      rw [List.drop_length]; rfl
    · intro i hi ih
      refine evShift ?_
      simp only [constableref01_With.l0]
      refine evPos (by omega) (evPos (by omega) ?_)
      rw [rdS_nth l i hi, drop_at l i hi, wrap_succ hi (by omega)]
      have hc : (l[i] :: l.drop (i + 1)).any (fun x => decide (x = s)) = (decide (l[i] = s) || (l.drop (i + 1)).any fun x => decide (x = s)) := List.any_cons
      rw [hc]
      refine evIf (fun e => evSome ?_) (fun e => ?_)
      · rw [decide_eq_true (tl_inj.1 e)]; simp
      · rw [decide_eq_false (fun h => e (tl_inj.2 h)), Bool.false_or]; exact ih
  unfold constableref01_With.f
  refine evIf (fun e => evSome ?_) (fun e => ?_)
  · have : s = ⟨#[]⟩ := size_zero.1 (by omega)
    simp [this]
  · have hs : ¬ s = ⟨#[]⟩ := fun h => e (by rw [size_zero.2 h]; rfl)
    rw [decide_eq_false hs, Bool.false_or]
    exact h1 0 (by omega)
theorem vars_len (l : List S52) : ∀ out : List ByteArray, (varsS out l).length ≤ out.length + l.length := by
  induction l with
  | nil => intro out; simp [varsS]
  | cons o l ih =>
    intro out
    simp only [varsS]
    split
    · have := ih out; simp; omega
    · have := ih (out ++ [o.f1]); simp at this ⊢; omega
theorem ref_ExprVars_l0 (l : List S52) (hl : l.length ≤ 100000) : ∀ (d i : Nat) (out : List ByteArray), i + d = l.length → out.length ≤ i →
    Ev (fun k => constableref01_ExprVars.l0 k l out i) (varsS out (l.drop i)) := by
  intro d
  induction d with
  | zero =>
    intro i out hi h1
    refine evShift ?_
    simp only [constableref01_ExprVars.l0]
    refine evNeg (by omega) (evSome ?_)
    rw [List.drop_of_length_le (by omega)]; rfl
  | succ d ih =>
    intro i out hi h1
    have hlt : i < l.length := by omega
    refine evShift ?_
    simp only [constableref01_ExprVars.l0]
    refine evPos (by omega) (evPos (by omega) ?_)
    simp only [rdO_nth l i hlt]
    rw [drop_at l i hlt, wrap_succ hlt (by omega)]
    refine Ev.bind (ref_With_ev out l[i].f1 (by omega)) ?_
    simp only [varsS]
    split
    · exact ih (i + 1) out (by omega) (by omega)
    · exact ih (i + 1) (out ++ [l[i].f1]) (by omega) (by simp; omega)
theorem ref_ExprVars_ev (l : List S52) (hl : l.length ≤ 100000) : Ev (fun k => constableref01_ExprVars.f k l) (varsS [] l) := by
  have := ref_ExprVars_l0 l hl l.length 0 [] (by omega) (by simp)
  simpa [constableref01_ExprVars.f] using this
theorem opS_kind {o : S52} (h : opS o = true) : (o.f0 ≥ 3 ↔ pushS o = false) := by
  unfold opS at h
  unfold pushS
  rw [decide_eq_false_iff_not]
  by_cases k1 : o.f0 = 1
  · omega
  · by_cases k2 : o.f0 = 2
    · omega
    · rw [if_neg k1, if_neg k2] at h
      simp only [Bool.and_eq_true, decide_eq_true_eq] at h
      omega
theorem deep_ops : ∀ (l : List S52) (n m : Int), deepS n l = some m → ∀ o ∈ l, opS o = true
  | [], _, _, _, o, ho => by simp at ho
  | x :: l, n, m, h, o, ho => by
    have hx : opS x = true ∧ ∃ n', deepS n' l = some m := by
      cases hp : pushS x with
      | true => obtain ⟨h1, h2⟩ := deep_push h hp; exact ⟨h1, _, h2⟩
      | false => obtain ⟨h1, _, h2⟩ := deep_reck h hp; exact ⟨h1, _, h2⟩
    rcases List.mem_cons.1 ho with rfl | ho
    · exact hx.1
    · obtain ⟨n', h2⟩ := hx.2
      exact deep_ops l n' m h2 o ho
theorem ref_Part_l0 (l : List S52) (hl : l.length ≤ 1000000) (hop : ∀ o ∈ l, opS o = true) : ∀ (i : Nat) (need : Int), i < l.length → 1 ≤ need → need + i ≤ 2000000 →
    Ev (fun k => constableref01_Part.l0 k l need i) (partS need (l.take (i + 1)).reverse) := by
  intro i
  induction i with
  | zero =>
    intro need hi h1 h2
    rw [take_snoc l 0 hi]
    simp only [partS, List.take_zero, List.reverse_nil, List.length_nil]
    refine evShift ?_
    simp only [constableref01_Part.l0]
    refine evPos (by omega) (evPos (by omega) (evPos (by omega) ?_))
    have e0 : rd_T52 l ((0 : Nat) : Int) = l[0] := rdO_nth l 0 hi
    rw [e0]
    have hk := opS_kind (hop _ (List.getElem_mem hi))
    have w1 : wrap64 (need - 1) = need - 1 := by unfold wrap64; omega
    have w2 : wrap64 (need + 1) = need + 1 := by unfold wrap64; omega
    have w3 : wrap64 (((0 : Nat) : Int) - 1) = -1 := by unfold wrap64; omega
    rw [w1, w2, w3]
    have out : ∀ m : Int, Ev (fun k => constableref01_Part.l0 k l m (-1)) (-1) := by
      intro m
      refine evShift ?_
      simp only [constableref01_Part.l0]
      exact evNeg (by omega) (evSome rfl)
    refine evIf (fun hge => ?_) (fun hge => ?_)
    · rw [hk.1 hge]
      simp only [Bool.false_eq_true, if_false]
      refine evIf (fun h0 => ?_) (fun h0 => ?_)
      · rw [if_pos h0]; exact evSome rfl
      · rw [if_neg h0]; exact out _
    · have hp : pushS l[0] = true := by
        cases hp : pushS l[0] with
        | true => rfl
        | false => exact absurd (hk.2 hp) hge
      rw [hp]
      simp only [if_true]
      refine evIf (fun h0 => ?_) (fun h0 => ?_)
      · rw [if_pos h0]; exact evSome rfl
      · rw [if_neg h0]; exact out _
  | succ i ih =>
    intro need hi h1 h2
    rw [take_snoc l (i + 1) hi]
    simp only [partS]
    refine evShift ?_
    simp only [constableref01_Part.l0]
    refine evPos (by omega) (evPos (by omega) (evPos (by omega) ?_))
    rw [rdO_nth l (i + 1) hi]
    have hk := opS_kind (hop _ (List.getElem_mem hi))
    have w1 : wrap64 (need - 1) = need - 1 := by unfold wrap64; omega
    have w2 : wrap64 (need + 1) = need + 1 := by unfold wrap64; omega
    have w3 : wrap64 (((i + 1 : Nat) : Int) - 1) = (i : Int) := by unfold wrap64; omega
    rw [w1, w2, w3]
    have hlen : ((l.take (i + 1)).reverse.length : Int) = ((i + 1 : Nat) : Int) := by simp; omega
    refine evIf (fun hge => ?_) (fun hge => ?_)
    · rw [hk.1 hge]
      simp only [Bool.false_eq_true, if_false]
      refine evIf (fun h0 => ?_) (fun h0 => ?_)
      · rw [if_pos h0, hlen]; exact evSome rfl
      · rw [if_neg h0]; exact ih _ (by omega) (by omega) (by omega)
    · have hp : pushS l[i + 1] = true := by
        cases hp : pushS l[i + 1] with
        | true => rfl
        | false => exact absurd (hk.2 hp) hge
      rw [hp]
      simp only [if_true]
      refine evIf (fun h0 => ?_) (fun h0 => ?_)
      · rw [if_pos h0, hlen]; exact evSome rfl
      · rw [if_neg h0]; exact ih _ (by omega) (by omega) (by omega)
def heavyO (l : List S52) : Bool := decide (l.length > 40) || l.any fun o => decide (o.f1.size > 200) || decide (o.f2.f2.size > 200)
def heavyB (l : List S62) : Bool := decide (l.length > 110) || l.any fun o => decide (o.f0.size > 200) || decide (o.f1.f2.size > 200)
theorem heavy07_ev (l : List S52) : Ev (fun k => constablelaw07_Heavy.f k l) (heavyO l) := by
  unfold constablelaw07_Heavy.f heavyO
  refine evIf (fun h => evSome ?_) (fun h => ?_)
  · rw [decide_eq_true (by omega)]; rfl
  · rw [decide_eq_false (by omega), Bool.false_or]
    have h1 : ∀ i : Nat, i ≤ l.length → Ev (fun k => constablelaw07_Heavy.l0 k l i) ((l.drop i).any fun o => decide (o.f1.size > 200) || decide (o.f2.f2.size > 200)) := by
      refine back_ind l.length (fun k i => constablelaw07_Heavy.l0 k l i) _ ?_ ?_
      · refine evShift ?_
        simp only [constablelaw07_Heavy.l0]
        refine evNeg (by omega) (evSome ?_)
        rw [List.drop_length]; rfl
      · intro i hi ih
        refine evShift ?_
        simp only [constablelaw07_Heavy.l0]
        refine evPos (by omega) (evPos (by omega) ?_)
        rw [rdO_nth l i hi, drop_at l i hi, wrap_succ hi (by omega)]
        simp only [List.any_cons]
        refine evIf (fun e => evSome ?_) (fun e => ?_)
        · rw [decide_eq_true (by omega)]; rfl
        · rw [decide_eq_false (by omega)]
          refine evIf (fun e => evSome ?_) (fun e => ?_)
          · rw [decide_eq_true (by omega)]; rfl
          · rw [decide_eq_false (by omega)]; exact ih
    have := h1 0 (by omega)
    simpa using this
theorem heavy05_ev (l : List S62) : Ev (fun k => constablelaw05_Heavy.f k l) (heavyB l) := by
  unfold constablelaw05_Heavy.f heavyB
  refine evIf (fun h => evSome ?_) (fun h => ?_)
  · rw [decide_eq_true (by omega)]; rfl
  · rw [decide_eq_false (by omega), Bool.false_or]
    have h1 : ∀ i : Nat, i ≤ l.length → Ev (fun k => constablelaw05_Heavy.l0 k l i) ((l.drop i).any fun o => decide (o.f0.size > 200) || decide (o.f1.f2.size > 200)) := by
      refine back_ind l.length (fun k i => constablelaw05_Heavy.l0 k l i) _ ?_ ?_
      · refine evShift ?_
        simp only [constablelaw05_Heavy.l0]
        refine evNeg (by omega) (evSome ?_)
        rw [List.drop_length]; rfl
      · intro i hi ih
        refine evShift ?_
        simp only [constablelaw05_Heavy.l0]
        refine evPos (by omega) (evPos (by omega) ?_)
        rw [rdB_nth l i hi, drop_at l i hi, wrap_succ hi (by omega)]
        simp only [List.any_cons]
        refine evIf (fun e => evSome ?_) (fun e => ?_)
        · rw [decide_eq_true (by omega)]; rfl
        · rw [decide_eq_false (by omega)]
          refine evIf (fun e => evSome ?_) (fun e => ?_)
          · rw [decide_eq_true (by omega)]; rfl
          · rw [decide_eq_false (by omega)]; exact ih
    have := h1 0 (by omega)
    simpa using this
theorem light_ops {l : List S52} (h : heavyO l = false) : l.length ≤ 40 ∧ OpsOk l := by
  unfold heavyO at h
  simp only [Bool.or_eq_false_iff, decide_eq_false_iff_not, List.any_eq_false, Bool.or_eq_true, decide_eq_true_eq, not_or] at h
  refine ⟨by omega, fun o ho => ?_⟩
  have := h.2 o ho
  unfold maxLen
  constructor <;> omega
theorem light_binds {l : List S62} (h : heavyB l = false) : l.length ≤ 110 ∧ BindsOk l := by
  unfold heavyB at h
  simp only [Bool.or_eq_false_iff, decide_eq_false_iff_not, List.any_eq_false, Bool.or_eq_true, decide_eq_true_eq, not_or] at h
  refine ⟨by omega, fun o ho => ?_⟩
  have := h.2 o ho
  unfold maxLen
  constructor <;> omega
end Go.Proofs.Ytconpnagoijacaa.P
end
section
namespace Go.Proofs.Ytconpnagoijacaa.P
open Go.RowKit Go.Proofs.YtconpnagoijacaaW.PrintWords Go.Proofs.YtconpnagoijacaaW.PrintLast Go.Proofs.YtconpnagoijacaaW.PrintMore
theorem wakes07_ev : Ev (fun k => constablelaw07_wakes.f k) true := Ev.of (constablelaw07_wakes.mono) (k := 60) (by decide +kernel)
theorem wakesEnd {g : Nat → Option Bool} (h : Ev g true) : Ev (fun k => (g k).bind fun t => some t) true := Ev.bind h (evSome rfl)
end Go.Proofs.Ytconpnagoijacaa.P
end
section
namespace Go.Proofs.Ytconpnagoijacaa.P
open Go.RowKit Go.Proofs.YtconpnagoijacaaW.PrintWords Go.Proofs.YtconpnagoijacaaW.PrintLast Go.Proofs.YtconpnagoijacaaW.PrintMore
def runS (b : List S62) : List S40 → List S52 → Except Int (List S40)
  | st, [] => .ok st
  | st, o :: l =>
    if pushS o then (if (pushV b o).2 = 0 then runS b ((pushV b o).1 :: st) l else .error (pushV b o).2)
    else match st with
      | y :: x :: st => if (reckV o.f0 x y).2 = 0 then runS b ((reckV o.f0 x y).1 :: st) l else .error (reckV o.f0 x y).2
      | _ => .error 0
theorem eval_run (b : List S62) : ∀ (l : List S52) (st : List S40), evalS b st l = match runS b st l with | .ok st => (st.getLastD zV, 0) | .error e => (zV, e)
  | [], st => rfl
  | o :: l, st => by
    simp only [evalS, runS]
    split
    · split
      · exact eval_run b l _
      · rfl
    · match st with
      | [] => rfl
      | [_] => rfl
      | y :: x :: st =>
        simp only
        split
        · exact eval_run b l _
        · rfl
theorem run_append (b : List S62) : ∀ (P R : List S52) (st : List S40), runS b st (P ++ R) = match runS b st P with | .ok st => runS b st R | .error e => .error e
  | [], R, st => rfl
  | o :: P, R, st => by
    simp only [List.cons_append, runS]
    split
    · split
      · exact run_append b P R _
      · rfl
    · match st with
      | [] => rfl
      | [_] => rfl
      | y :: x :: st =>
        simp only
        split
        · exact run_append b P R _
        · rfl
theorem run_frame (b : List S62) (tl : List S40) : ∀ (P : List S52) (st : List S40) (m : Int), deepS st.length P = some m →
    (∀ st', runS b st P = .ok st' → runS b (st ++ tl) P = .ok (st' ++ tl) ∧ (st'.length : Int) = m) ∧ (∀ e, runS b st P = .error e → runS b (st ++ tl) P = .error e ∧ e ≠ 0)
  | [], st, m, h => by
    simp only [deepS, Option.some.injEq] at h
    refine ⟨fun st' h' => ?_, fun e h' => ?_⟩
    · simp only [runS, Except.ok.injEq] at h' ⊢
      subst h'
      exact ⟨rfl, h⟩
    · simp [runS] at h'
  | o :: P, st, m, h => by
    cases hp : pushS o with
    | true =>
      obtain ⟨_, h2⟩ := deep_push h hp
      have ih := run_frame b tl P ((pushV b o).1 :: st) m (by simpa using h2)
      simp only [runS, hp, if_true]
      by_cases he : (pushV b o).2 = 0
      · simp only [he, if_true]; exact ih
      · simp only [he, if_false]
        refine ⟨(fun st' h' => by cases h'), fun e h' => ?_⟩
        simp only [Except.error.injEq] at h'
        subst h'
        exact ⟨rfl, he⟩
    | false =>
      obtain ⟨_, h2, h3⟩ := deep_reck h hp
      match st, h2, h3 with
      | [], h2, _ => simp at h2
      | [_], h2, _ => simp at h2
      | y :: x :: st, h2, h3 =>
        have ih := run_frame b tl P ((reckV o.f0 x y).1 :: st) m (by rw [← h3]; congr 1; simp only [List.length_cons]; omega)
        simp only [runS, hp, Bool.false_eq_true, if_false, List.cons_append]
        by_cases he : (reckV o.f0 x y).2 = 0
        · simp only [he, if_true]; exact ih
        · simp only [he, if_false]
          refine ⟨(fun st' h' => by cases h'), fun e h' => ?_⟩
          simp only [Except.error.injEq] at h'
          subst h'
          exact ⟨rfl, he⟩
theorem run_expr (b : List S62) (l : List S52) (h : deepS 0 l = some 1) : (∃ v, runS b [] l = .ok [v] ∧ evalS b [] l = (v, 0) ∧ ∀ tl, runS b tl l = .ok (v :: tl)) ∨ (∃ e, e ≠ 0 ∧ runS b [] l = .error e ∧ evalS b [] l = (zV, e) ∧ ∀ tl, runS b tl l = .error e) := by
  have hf := fun tl => run_frame b tl l [] 1 (by simpa using h)
  cases hr : runS b [] l with
  | ok st =>
    left
    have h1 := ((hf []).1 st hr).2
    match st, h1 with
    | [v], _ =>
      refine ⟨v, rfl, by rw [eval_run, hr]; rfl, fun tl => ?_⟩
      simpa using ((hf tl).1 [v] hr).1
    | [], h1 => simp at h1
    | _ :: _ :: _, h1 => simp at h1; omega
  | error e =>
    right
    exact ⟨e, ((hf []).2 e hr).2, rfl, by rw [eval_run, hr], fun tl => by simpa using ((hf tl).2 e hr).1⟩
theorem expr_len {l : List S52} (h : exprS l = true) : 1 ≤ l.length ∧ l.length ≤ 15 ∧ deepS 0 l = some 1 := by
  simp only [exprS, Bool.and_eq_true, decide_eq_true_eq] at h
  exact ⟨h.1.1, h.1.2, h.2⟩
theorem expr_mk {l : List S52} (h1 : 1 ≤ l.length) (h2 : l.length ≤ 15) (h3 : deepS 0 l = some 1) : exprS l = true := by
  simp only [exprS, Bool.and_eq_true, decide_eq_true_eq]
  exact ⟨⟨h1, h2⟩, h3⟩
theorem part_lt : ∀ (r : List S52) (m : Int), partS m r < r.length
  | [], m => by simp [partS]
  | o :: r, m => by
    simp only [partS, List.length_cons]
    have := part_lt r (if pushS o then m - 1 else m + 1)
    generalize (if pushS o then m - 1 else m + 1) = c at *
    split <;> omega
theorem part_comp : ∀ (r : List S52) (m n : Int) (q : Nat), 1 ≤ m → 1 ≤ n → partS m r = q → partS (n + m) r = partS n (r.drop (r.length - q))
  | [], m, n, q, _, _, h => by simp only [partS] at h; omega
  | o :: r, m, n, q, h1, h2, h => by
    have hlt := part_lt (o :: r) m
    rw [h] at hlt
    simp only [partS] at h
    have e : (if pushS o then n + m - 1 else n + m + 1) = n + (if pushS o then m - 1 else m + 1) := by split <;> omega
    have step : partS (n + m) (o :: r) = if n + (if pushS o then m - 1 else m + 1) = 0 then (r.length : Int) else partS (n + (if pushS o then m - 1 else m + 1)) r := by
      simp only [partS]; rw [e]
    rw [step]
    have h0 : 0 ≤ (if pushS o then m - 1 else m + 1) := by split <;> omega
    generalize (if pushS o then m - 1 else m + 1) = c at *
    by_cases hc : c = 0
    · rw [if_pos hc] at h
      have : q = r.length := by omega
      subst this
      rw [if_neg (by omega), hc, Int.add_zero]
      simp only [List.length_cons]
      rw [show r.length + 1 - r.length = 1 by omega]; rfl
    · rw [if_neg hc] at h
      rw [if_neg (by omega), part_comp r c n q (by omega) h2 h]
      have hq : q ≤ r.length := by
        have := part_lt r c
        omega
      simp only [List.length_cons]
      rw [show r.length + 1 - q = (r.length - q) + 1 by omega, List.drop_succ_cons]
end Go.Proofs.Ytconpnagoijacaa.P
end
section
namespace Go.Proofs.Ytconpnagoijacaa.P
open Go.RowKit Go.Proofs.YtconpnagoijacaaW.PrintWords Go.Proofs.YtconpnagoijacaaW.PrintLast Go.Proofs.YtconpnagoijacaaW.PrintMore
structure Opens {α : Type} (d : Kd α) (P : Program) (t : TypeId) (ok : α → Prop) : Prop where
  cells : P.cellsOf t = d.sz
  opens : ∀ {H : Type} {enc : TypeId × Value → H} {w : World} {base : Nat} {spare : Nat → Bool} {held : Bool} {fuel : Nat} {cs : List Value} {x : DataW H × List MemPlace},
    DataW.trod enc P w base spare held fuel t cs = some x → ∃ v, d.K w v cs ∧ ok v
theorem Opens.mono {α : Type} {d : Kd α} {P : Program} {t : TypeId} {ok ok' : α → Prop} (h : Opens d P t ok) (hm : ∀ v, ok v → ok' v) : Opens d P t ok' :=
  ⟨h.cells, fun hx => by obtain ⟨v, h1, h2⟩ := h.opens hx; exact ⟨v, h1, hm v h2⟩⟩
theorem Opens.int {k : IntKind} {P : Program} {t : TypeId} (hu : P.underlying t = some (.int k)) (hc : P.cellsOf t = 1) : Opens (Kd.int k) P t (fun n => (Lit.int k n).wf = true) :=
  ⟨hc, fun hx => by obtain ⟨m, rfl, rfl, hw⟩ := DataW.trod_int hu hx; exact ⟨m, rfl, hw⟩⟩
theorem Opens.string {P : Program} {t : TypeId} (hu : P.underlying t = some .string) (hc : P.cellsOf t = 1) : Opens Kd.string P t (fun s => s.size ≤ maxLen) :=
  ⟨hc, fun hx => by obtain ⟨s, rfl, _, hw⟩ := DataW.trod_string hu hx; exact ⟨s, rfl, hw⟩⟩
theorem Opens.bool {P : Program} {t : TypeId} (hu : P.underlying t = some .bool) (hc : P.cellsOf t = 1) : Opens Kd.bool P t (fun _ => True) :=
  ⟨hc, fun hx => by obtain ⟨b, rfl, _⟩ := DataW.trod_bool hu hx; exact ⟨b, rfl, trivial⟩⟩
theorem Opens.iso {α β : Type} {d : Kd α} {P : Program} {t : TypeId} {ok : α → Prop} {f : β → α} (g : α → β) (hg : ∀ a, f (g a) = a) (h : Opens d P t ok) : Opens (Kd.iso d f) P t (fun b => ok (f b)) :=
  ⟨h.cells, fun hx => by
    obtain ⟨v, h1, h2⟩ := h.opens hx
    refine ⟨g v, ?_, ?_⟩
    · show d.K _ (f (g v)) _
      rw [hg]; exact h1
    · show ok (f (g v))
      rw [hg]; exact h2⟩
structure OpensFs {α : Type} (d : Kd α) (P : Program) (fs : List Field) (off : Nat) (ok : α → Prop) : Prop where
  opens : ∀ {H : Type} {enc : TypeId × Value → H} {w : World} {base : Nat} {spare : Nat → Bool} {held : Bool} {fuel : Nat} {cs : List Value},
    off + d.sz = cs.length → (∀ (i : Nat) (f : Field), fs[i]? = some f → ∃ x, DataW.trod enc P w base spare held fuel f.type ((cs.drop f.offset).take (P.cellsOf f.type)) = some x) → ∃ v, d.K w v (cs.drop off) ∧ ok v
theorem OpensFs.one {α : Type} {d : Kd α} {P : Program} {f : Field} {off : Nat} {ok : α → Prop} (ho : f.offset = off) (h : Opens d P f.type ok) : OpensFs d P [f] off ok := by
  refine ⟨?_⟩
  intro H enc w base spare held fuel cs hl hx
  obtain ⟨x, hx⟩ := hx 0 f rfl
  rw [ho, h.cells, List.take_of_length_le (by simp; omega)] at hx
  exact h.opens hx
theorem OpensFs.cons {α β : Type} {d : Kd α} {d' : Kd β} {P : Program} {f : Field} {fs : List Field} {off : Nat} {ok : α → Prop} {ok' : β → Prop} {ok2 : α × β → Prop} (ho : f.offset = off) (h : Opens d P f.type ok) (h' : OpensFs d' P fs (off + d.sz) ok') (hk : ∀ v, ok v.1 → ok' v.2 → ok2 v) :
    OpensFs (Kd.pair d d') P (f :: fs) off ok2 := by
  refine ⟨?_⟩
  intro H enc w base spare held fuel cs hl hx
  obtain ⟨x, hx0⟩ := hx 0 f rfl
  rw [ho, h.cells] at hx0
  obtain ⟨v, hv, ov⟩ := h.opens hx0
  have hl' : off + (d.sz + d'.sz) = cs.length := hl
  obtain ⟨u, hu, ou⟩ := h'.opens (cs := cs) (by omega) (fun i g hg => hx (i + 1) g hg)
  refine ⟨(v, u), ⟨(cs.drop off).take d.sz, cs.drop (off + d.sz), ?_, hv, hu⟩, hk (v, u) ov ou⟩
  rw [← List.drop_drop, List.take_append_drop]
theorem Opens.struct {α : Type} {d : Kd α} {P : Program} {t : TypeId} {fs : Array Field} {ok : α → Prop} (hu : P.underlying t = some (.struct fs)) (hc : P.cellsOf t = d.sz) (h : OpensFs d P fs.toList 0 ok) : Opens d P t ok := by
  refine ⟨hc, ?_⟩
  intro H enc w base spare held fuel cs x hx
  obtain ⟨xs, n, rfl, _, hl, hxl, hf⟩ := DataW.trod_struct hu hx
  have := h.opens (cs := cs) (enc := enc) (w := w) (base := base) (spare := spare) (held := held) (fuel := n) (by omega) (by
    intro i f hi
    have hi' : fs[i]? = some f := by simpa using hi
    have hlt : i < xs.length := by
      rw [hxl]
      exact (Array.getElem?_eq_some_iff.1 hi').1
    exact ⟨xs[i], by rw [hf i f hi', List.getElem?_eq_getElem hlt]⟩)
  simpa using this
theorem list_of {α : Type} {Q : Nat → α → Prop} : ∀ n : Nat, (∀ i, i < n → ∃ v, Q i v) → ∃ l : List α, l.length = n ∧ ∀ i v, l[i]? = some v → Q i v := by
  intro n
  induction n with
  | zero => intro _; exact ⟨[], rfl, fun i v h => by simp at h⟩
  | succ n ih =>
    intro h
    obtain ⟨l, hl, hq⟩ := ih (fun i hi => h i (by omega))
    obtain ⟨v, hv⟩ := h n (by omega)
    refine ⟨l ++ [v], by simp [hl], ?_⟩
    intro i u hu
    by_cases hi : i < l.length
    · rw [List.getElem?_append_left hi] at hu
      exact hq i u hu
    · rw [List.getElem?_append_right (by omega)] at hu
      have h0 : i - l.length = 0 := by
        by_cases h0 : i - l.length = 0
        · exact h0
        · rw [List.getElem?_eq_none (by simp; omega)] at hu; cases hu
      rw [h0] at hu
      simp at hu
      subst hu
      have : i = n := by omega
      subst this
      exact hv
theorem Opens.row {α : Type} {d : Kd α} {P : Program} {t e : TypeId} {ok : α → Prop} (h : Opens d P e ok) (hu : P.underlying t = some (.slice e))
    {H : Type} {enc : TypeId × Value → H} {w : World} {base : Nat} {spare : Nat → Bool} {held : Bool} {fuel : Nat} {A : Option Addr} {len cap : Nat} {x : DataW H × List MemPlace}
    (hx : DataW.trod enc P w base spare held fuel t [.slice A len cap] = some x) : ∃ l, l.length = len ∧ d.C w A len l ∧ len ≤ cap ∧ cap ≤ maxLen ∧ ∀ v ∈ l, ok v := by
  rcases DataW.trod_slice hu hx with ⟨hcs, _⟩ | ⟨a, len', cap', elems, rest, n, rfl, hcs, _, hb, hl, hm, hlen, hel, _⟩
  · simp only [List.cons.injEq, Value.slice.injEq, and_true] at hcs
    obtain ⟨rfl, rfl, rfl⟩ := hcs
    exact ⟨[], rfl, ⟨rfl, by omega, fun h => by omega⟩, Nat.le_refl _, by unfold maxLen; omega, fun v hv => by simp at hv⟩
  · simp only [List.cons.injEq, Value.slice.injEq, and_true] at hcs
    obtain ⟨rfl, rfl, rfl⟩ := hcs
    obtain ⟨l, hll, hq⟩ := list_of (Q := fun i v => ∃ cs, w.cells? base (a.add (i * P.cellsOf e)) (P.cellsOf e) = some cs ∧ d.K w v cs ∧ ok v) len (by
      intro i hi
      have h1 := hel i hi
      rw [List.getElem?_eq_getElem (by omega), Option.bind_eq_some_iff] at h1
      obtain ⟨cs, h2, h3⟩ := h1
      obtain ⟨v, h4, h5⟩ := h.opens h3
      exact ⟨v, cs, h2, h4, h5⟩)
    refine ⟨l, hll, ⟨hll, by unfold maxLen at hm; omega, fun _ => ⟨a, rfl, ?_⟩⟩, hl, hm, ?_⟩
    · intro j p hp
      obtain ⟨cs, h2, h4, _⟩ := hq j p hp
      obtain ⟨_, h6, h7⟩ := World.cells?_some h2
      refine ⟨cs, by rw [h6, h.cells], h4, ?_⟩
      intro i u hi
      have hlt : i < P.cellsOf e := by rw [← h6]; exact (List.getElem?_eq_some_iff.1 hi).1
      have h8 := h7 i hlt
      rw [Addr.add_add, h.cells, hi] at h8
      exact h8
    · intro v hv
      obtain ⟨i, hi⟩ := List.getElem?_of_mem hv
      obtain ⟨_, _, _, h5⟩ := hq i v hi
      exact h5
theorem Opens.slice {α : Type} {d : Kd α} {P : Program} {t e : TypeId} {ok : α → Prop} (h : Opens d P e ok) (hu : P.underlying t = some (.slice e)) (hc : P.cellsOf t = 1) : Opens (Kd.slice e d) P t (fun l => l.length ≤ maxLen ∧ ∀ v ∈ l, ok v) := by
  refine ⟨hc, ?_⟩
  intro H enc w base spare held fuel cs x hx
  have hx0 := hx
  rcases DataW.trod_slice hu hx with ⟨hcs, _⟩ | ⟨a, len', cap', elems, rest, n, rfl, hcs, _⟩ <;> subst hcs
  all_goals
    obtain ⟨l, h1, h2, h3, h4, h5⟩ := h.row hu hx0
    have h6 := Nat.le_trans h3 h4
    rw [← h1] at h2 h3 h6 ⊢
    exact ⟨l, ⟨_, _, rfl, h3, h2⟩, h6, h5⟩
theorem Opens.arg {α : Type} {d : Kd α} {P : Program} {t e : TypeId} {ok : α → Prop} (h : Opens d P e ok) (hu : P.underlying t = some (.slice e)) {B : Nat} (hB : P.bytesOf e = B)
    {H : Type} {enc : TypeId × Value → H} {w : World} {base : Nat} {spare : Nat → Bool} {held : Bool} {a : Option Addr} {len cap : Nat} {x : DataW H} {ps : List MemPlace} {ts : List TypeId} {ds : List (DataW H)} {j : Nat}
    (hsz : (DataW.weightsEach P ts ds).all (· ≤ reachBytes) = true) (ht : ts[j]? = some t) (hd : ds[j]? = some x)
    (hx : DataW.Trod enc P w base spare held t (.slice a len cap) x ps) : ∃ l, l.length = len ∧ d.C w a len l ∧ len ≤ cap ∧ (len ≤ maxLen ∧ len * B ≤ 140737488351232) ∧ ∀ v ∈ l, ok v := by
  obtain ⟨fuel, hf⟩ := hx
  have hf' : DataW.trod enc P w base spare held fuel t [.slice a len cap] = some (x, ps) := hf
  obtain ⟨l, h1, h2, h3, h4, h5⟩ := h.row hu hf'
  refine ⟨l, h1, h2, h3, ⟨Nat.le_trans h3 h4, ?_⟩, h5⟩
  rcases DataW.trod_slice hu hf' with ⟨hcs, _⟩ | ⟨a', len', cap', elems, rest, n, _, hcs, hxx, _, hl, _, hlen, _⟩
  · simp only [List.cons.injEq, Value.slice.injEq, and_true] at hcs
    obtain ⟨_, rfl, _⟩ := hcs
    omega
  · simp only [List.cons.injEq, Value.slice.injEq, and_true] at hcs
    obtain ⟨_, rfl, _⟩ := hcs
    obtain ⟨rfl, _⟩ := Prod.mk.inj hxx
    have z := sized_slice hsz ht hd hu
    rw [hB] at z
    have : len ≤ (elems.map (·.1)).length + (rest.map (·.1)).length := by simp; omega
    exact Nat.le_trans (Nat.mul_le_mul_right _ this) z
theorem Opens.agg {α : Type} {d : Kd α} {P : Program} {t : TypeId} {ok : α → Prop} (h : Opens d P t ok) {fs : Array Field} (hu : P.underlying t = some (.struct fs))
    {H : Type} {enc : TypeId × Value → H} {w : World} {r : Reach} {base b0 : Nat} {spare : Nat → Bool} {held : Bool} {v : Value} {x : DataW H} {ps : List MemPlace}
    (hv : Value.okWide P w r b0 t v) (hx : DataW.Trod enc P w base spare held t v x ps) : ∃ u cs, v = .agg ⟨cs⟩ ∧ d.K w u cs ∧ ok u := by
  obtain ⟨cs, rfl, _⟩ := Go.WideShapes.okWide_struct hu hv
  obtain ⟨fuel, hf⟩ := hx
  obtain ⟨u, h1, h2⟩ := h.opens hf
  exact ⟨u, cs.toList, rfl, h1, h2⟩
end Go.Proofs.Ytconpnagoijacaa.P
end
section
namespace Go.Proofs.Ytconpnagoijacaa.P
open Go.RowKit Go.Proofs.YtconpnagoijacaaW.PrintWords Go.Proofs.YtconpnagoijacaaW.PrintLast Go.Proofs.YtconpnagoijacaaW.PrintMore
theorem o3 : Opens (Kd.int .i64) Try.prog 3 (fun x => (Lit.int .i64 x).wf = true) := Opens.int Try.underlying3 (by kernel_rfl)
theorem o9 : Opens Kd.string Try.prog 9 (fun x => x.size ≤ maxLen) := Opens.string Try.underlying9 (by kernel_rfl)
def ok40 (x : S40) : Prop := (Lit.int .i64 x.f0).wf = true ∧ (Lit.int .i64 x.f1).wf = true ∧ x.f2.size ≤ maxLen
theorem o40 : Opens k40 Try.prog 40 ok40 := by
  have h1 := Opens.struct (d := (Kd.pair (Kd.int .i64) (Kd.pair (Kd.int .i64) Kd.string))) (ok := fun a => (Lit.int .i64 a.1).wf = true ∧ (Lit.int .i64 a.2.1).wf = true ∧ a.2.2.size ≤ maxLen) Try.underlying40 (by kernel_rfl) (OpensFs.cons (ok2 := fun a : (Int) × (Int) × (ByteArray) => (Lit.int .i64 a.1).wf = true ∧ (Lit.int .i64 a.2.1).wf = true ∧ a.2.2.size ≤ maxLen) (ok' := fun a : (Int) × (ByteArray) => (Lit.int .i64 a.1).wf = true ∧ a.2.size ≤ maxLen) (by rfl) o3 (OpensFs.cons (ok2 := fun a : (Int) × (ByteArray) => (Lit.int .i64 a.1).wf = true ∧ a.2.size ≤ maxLen) (ok' := fun a : (ByteArray) => a.size ≤ maxLen) (by rfl) o3 (OpensFs.one (by rfl) o9) (fun v h1 h2 => ⟨h1, h2⟩)) (fun v h1 h2 => ⟨h1, h2⟩))
  exact Opens.mono (Opens.iso (fun a => ⟨a.1, a.2.1, a.2.2⟩) (fun _ => rfl) h1) (fun _ h => h)
theorem kc40 {w : World} {v : S40} {cs : List Value} (h : k40.K w v cs) : cs = [.int .i64 v.f0, .int .i64 v.f1, .string v.f2] := by
  have h0 : ((Kd.pair (Kd.int .i64) (Kd.pair (Kd.int .i64) Kd.string))).K w (v.f0, v.f1, v.f2) cs := h
  obtain ⟨c0, d0, rfl, g0, h1⟩ := h0
  obtain rfl := g0
  obtain ⟨c1, d1, rfl, g1, h2⟩ := h1
  obtain rfl := g1
  obtain rfl := h2
  exact rfl
def ok52 (x : S52) : Prop := (Lit.int .i64 x.f0).wf = true ∧ x.f1.size ≤ maxLen ∧ ok40 x.f2
theorem o52 : Opens k52 Try.prog 52 ok52 := by
  have h1 := Opens.struct (d := (Kd.pair (Kd.int .i64) (Kd.pair Kd.string k40))) (ok := fun a => (Lit.int .i64 a.1).wf = true ∧ a.2.1.size ≤ maxLen ∧ ok40 a.2.2) Try.underlying52 (by kernel_rfl) (OpensFs.cons (ok2 := fun a : (Int) × (ByteArray) × (S40) => (Lit.int .i64 a.1).wf = true ∧ a.2.1.size ≤ maxLen ∧ ok40 a.2.2) (ok' := fun a : (ByteArray) × (S40) => a.1.size ≤ maxLen ∧ ok40 a.2) (by rfl) o3 (OpensFs.cons (ok2 := fun a : (ByteArray) × (S40) => a.1.size ≤ maxLen ∧ ok40 a.2) (ok' := fun a : (S40) => ok40 a) (by rfl) o9 (OpensFs.one (by rfl) o40) (fun v h1 h2 => ⟨h1, h2⟩)) (fun v h1 h2 => ⟨h1, h2⟩))
  exact Opens.mono (Opens.iso (fun a => ⟨a.1, a.2.1, a.2.2⟩) (fun _ => rfl) h1) (fun _ h => h)
theorem kc52 {w : World} {v : S52} {cs : List Value} (h : k52.K w v cs) : cs = [.int .i64 v.f0, .string v.f1, .int .i64 v.f2.f0, .int .i64 v.f2.f1, .string v.f2.f2] := by
  have h0 : ((Kd.pair (Kd.int .i64) (Kd.pair Kd.string k40))).K w (v.f0, v.f1, v.f2) cs := h
  obtain ⟨c0, d0, rfl, g0, h1⟩ := h0
  obtain rfl := g0
  obtain ⟨c1, d1, rfl, g1, h2⟩ := h1
  obtain rfl := g1
  obtain rfl := kc40 h2
  exact rfl
def ok62 (x : S62) : Prop := x.f0.size ≤ maxLen ∧ ok40 x.f1
theorem o62 : Opens k62 Try.prog 62 ok62 := by
  have h1 := Opens.struct (d := (Kd.pair Kd.string k40)) (ok := fun a => a.1.size ≤ maxLen ∧ ok40 a.2) Try.underlying62 (by kernel_rfl) (OpensFs.cons (ok2 := fun a : (ByteArray) × (S40) => a.1.size ≤ maxLen ∧ ok40 a.2) (ok' := fun a : (S40) => ok40 a) (by rfl) o9 (OpensFs.one (by rfl) o40) (fun v h1 h2 => ⟨h1, h2⟩))
  exact Opens.mono (Opens.iso (fun a => ⟨a.1, a.2⟩) (fun _ => rfl) h1) (fun _ h => h)
theorem kc62 {w : World} {v : S62} {cs : List Value} (h : k62.K w v cs) : cs = [.string v.f0, .int .i64 v.f1.f0, .int .i64 v.f1.f1, .string v.f1.f2] := by
  have h0 : ((Kd.pair Kd.string k40)).K w (v.f0, v.f1) cs := h
  obtain ⟨c0, d0, rfl, g0, h1⟩ := h0
  obtain rfl := g0
  obtain rfl := kc40 h1
  exact rfl
end Go.Proofs.Ytconpnagoijacaa.P
end
section
namespace Go.Proofs.Ytconpnagoijacaa.P
open Go.RowKit Go.Proofs.YtconpnagoijacaaW.PrintWords Go.Proofs.YtconpnagoijacaaW.PrintLast Go.Proofs.YtconpnagoijacaaW.PrintMore
def vN (c : Int) : S40 := ⟨1, c, ⟨#[]⟩⟩
def pvO (c : Int) : S52 := ⟨2, ⟨#[]⟩, ⟨1, c, ⟨#[]⟩⟩⟩
def adO : S52 := ⟨3, ⟨#[]⟩, ⟨0, 0, ⟨#[]⟩⟩⟩
def addL : Bool → List Int → List S52
  | _, [] => []
  | true, c :: r => pvO c :: addL false r
  | false, c :: r => pvO c :: adO :: addL false r
def tt : List Int → Int
  | [] => 0
  | x :: l => x + tt l
theorem tt_append : ∀ a b : List Int, tt (a ++ b) = tt a + tt b
  | [], b => by simp [tt]
  | x :: a, b => by simp only [List.cons_append, tt, tt_append a b]; omega
theorem tt_reverse : ∀ a : List Int, tt a.reverse = tt a
  | [] => rfl
  | x :: a => by rw [List.reverse_cons, tt_append, tt_reverse a]; simp only [tt]; omega
theorem add_snocF (c : Int) : ∀ p : List Int, addL false (p ++ [c]) = addL false p ++ [pvO c, adO]
  | [] => rfl
  | x :: p => by simp only [List.cons_append, addL, add_snocF c p]
theorem add_snoc (c : Int) : ∀ p : List Int, p ≠ [] → addL true (p ++ [c]) = addL true p ++ [pvO c] ++ [adO]
  | [], h => absurd rfl h
  | x :: p, _ => by simp only [List.cons_append, addL, add_snocF c p, List.append_assoc, List.nil_append]
theorem add_lenF : ∀ p : List Int, (addL false p).length = 2 * p.length
  | [] => rfl
  | x :: p => by simp only [addL, List.length_cons, add_lenF p]; omega
theorem add_len (p : List Int) (h : p ≠ []) : (addL true p).length + 1 = 2 * p.length := by
  match p, h with
  | x :: p, _ => simp only [addL, List.length_cons, add_lenF p]; omega
theorem ad_ok : opS adO = true ∧ pushS adO = false := ⟨by decide +kernel, by decide +kernel⟩
theorem pv_push (c : Int) : pushS (pvO c) = true := rfl
theorem pv_ok {c : Int} (h : InB c) : opS (pvO c) = true := by
  unfold InB at h
  simp [opS, pvO, valS, InB, h.1, h.2]
theorem add_deepF : ∀ p : List Int, (∀ c ∈ p, InB c) → deepS 1 (addL false p) = some 1
  | [], _ => rfl
  | c :: p, h => by
    have e1 := pv_ok (h c (List.mem_cons_self ..))
    obtain ⟨a1, a2⟩ := ad_ok
    simp only [addL, deepS, e1, pv_push, a1, a2, Bool.true_or, Bool.and_true, if_true, Bool.false_or, Bool.true_and, Bool.false_eq_true, if_false]
    rw [decide_eq_true (by decide), if_pos rfl]
    exact add_deepF p fun c hc => h c (List.mem_cons_of_mem _ hc)
theorem add_deep (p : List Int) (h : ∀ c ∈ p, InB c) (hn : p ≠ []) : deepS 0 (addL true p) = some 1 := by
  match p, hn with
  | c :: p, _ =>
    have e1 := pv_ok (h c (List.mem_cons_self ..))
    simp only [addL, deepS, e1, pv_push, Bool.true_or, Bool.and_true, if_true]
    exact add_deepF p fun c hc => h c (List.mem_cons_of_mem _ hc)
theorem map_deep : ∀ (p : List Int) (n : Int), (∀ c ∈ p, InB c) → deepS n (p.map pvO) = some (n + p.length)
  | [], n, _ => by simp [deepS]
  | c :: p, n, h => by
    have e1 := pv_ok (h c (List.mem_cons_self ..))
    simp only [List.map_cons, deepS, e1, pv_push, Bool.true_or, Bool.and_true, if_true]
    rw [map_deep p (n + 1) fun c hc => h c (List.mem_cons_of_mem _ hc)]
    simp only [List.length_cons]
    congr 1; omega
theorem rep_deep : ∀ (m : Nat) (d : Int), (m : Int) + 1 ≤ d → deepS d (List.replicate m adO) = some (d - m)
  | 0, d, _ => by simp [deepS]
  | m + 1, d, h => by
    obtain ⟨a1, a2⟩ := ad_ok
    simp only [List.replicate_succ, deepS, a1, a2, Bool.false_or, Bool.true_and, Bool.false_eq_true, if_false]
    rw [decide_eq_true (by omega), if_pos rfl, rep_deep m (d - 1) (by omega)]
    congr 1; omega
def outS (r : Int × Int) : S40 × Int := if r.2 = 0 then (vN r.1, 0) else (zV, r.2)
theorem reck_add (a c : Int) : reckV 3 (vN a) (vN c) = outS (doS 3 a c) := by unfold reckV outS; rw [if_pos ⟨rfl, rfl⟩]; rfl
theorem add_evalF : ∀ (p : List Int) (a : Int), evalS [] [vN a] (addL false p) = outS (sumS a p)
  | [], a => rfl
  | c :: p, a => by
    have hp : pushV [] (pvO c) = (vN c, 0) := rfl
    obtain ⟨_, a2⟩ := ad_ok
    have hf : adO.f0 = 3 := rfl
    simp only [addL, evalS, pv_push, hp, a2, if_true, Bool.false_eq_true, if_false, hf, reck_add, sumS]
    by_cases h : (doS 3 a c).2 = 0
    · have e : outS (doS 3 a c) = (vN (doS 3 a c).1, 0) := by unfold outS; rw [if_pos h]
      rw [e, if_pos h, if_pos rfl]
      exact add_evalF p _
    · have e : outS (doS 3 a c) = (zV, (doS 3 a c).2) := by unfold outS; rw [if_neg h]
      rw [e, if_neg h, if_neg h]
      unfold outS
      rw [if_neg h]
theorem add_eval (p : List Int) (h : ∀ c ∈ p, InB c) (hn : p ≠ []) : evalS [] [] (addL true p) = outS (sumS 0 p) := by
  match p, hn with
  | c :: p, _ =>
    have hc := h c (List.mem_cons_self ..)
    have hp : pushV [] (pvO c) = (vN c, 0) := rfl
    have d : doS 3 0 c = (c, 0) := by
      unfold InB at hc
      simp [doS, InB, hc.1, hc.2]
    simp only [addL, evalS, pv_push, hp, if_true, sumS, d]
    exact add_evalF p c
def foldS : Int → List Int → Int × Int
  | y, [] => (y, 0)
  | y, x :: l => if (doS 3 x y).2 = 0 then foldS (doS 3 x y).1 l else (0, (doS 3 x y).2)
theorem rep_eval : ∀ (l : List Int) (y : Int), evalS [] (vN y :: l.map vN) (List.replicate l.length adO) = outS (foldS y l)
  | [], y => rfl
  | x :: l, y => by
    obtain ⟨_, a2⟩ := ad_ok
    have hf : adO.f0 = 3 := rfl
    simp only [List.length_cons, List.replicate_succ, List.map_cons, evalS, a2, Bool.false_eq_true, if_false, hf, reck_add, foldS]
    by_cases h : (doS 3 x y).2 = 0
    · have e : outS (doS 3 x y) = (vN (doS 3 x y).1, 0) := by unfold outS; rw [if_pos h]
      rw [e, if_pos h, if_pos rfl]
      exact rep_eval l _
    · have e : outS (doS 3 x y) = (zV, (doS 3 x y).2) := by unfold outS; rw [if_neg h]
      rw [e, if_neg h, if_neg h]
      unfold outS
      rw [if_neg h]
theorem map_eval (R : List S52) : ∀ (p : List Int) (st : List S40), evalS [] st (p.map pvO ++ R) = evalS [] ((p.reverse.map vN) ++ st) R
  | [], st => rfl
  | c :: p, st => by
    have hp : pushV [] (pvO c) = (vN c, 0) := rfl
    simp only [List.map_cons, List.cons_append, evalS, pv_push, hp, if_true]
    rw [map_eval R p]
    simp
theorem do_add (a c : Int) : ((doS 3 a c).2 = 0 ∧ (doS 3 a c).1 = a + c) ∨ (doS 3 a c).2 = 4 := by
  have e : doS 3 a c = if InB a ∧ InB c then if InB (a + c) then (a + c, 0) else (0, 4) else (0, 4) := by simp [doS]
  rw [e]
  split
  · split
    · exact .inl ⟨rfl, rfl⟩
    · exact .inr rfl
  · exact .inr rfl
theorem sum_says : ∀ (l : List Int) (a : Int), ((sumS a l).2 = 0 ∧ (sumS a l).1 = a + tt l) ∨ (sumS a l).2 = 4
  | [], a => .inl ⟨rfl, by simp [sumS, tt]⟩
  | c :: l, a => by
    simp only [sumS]
    rcases do_add a c with ⟨h, e⟩ | h
    · rw [if_pos h, e]
      rcases sum_says l (a + c) with ⟨h1, h2⟩ | h1
      · exact .inl ⟨h1, by rw [h2]; simp only [tt]; omega⟩
      · exact .inr h1
    · rw [if_neg (by omega)]; exact .inr h
theorem fold_says : ∀ (l : List Int) (y : Int), ((foldS y l).2 = 0 ∧ (foldS y l).1 = y + tt l) ∨ (foldS y l).2 = 4
  | [], a => .inl ⟨rfl, by simp [foldS, tt]⟩
  | c :: l, y => by
    simp only [foldS]
    rcases do_add c y with ⟨h, e⟩ | h
    · rw [if_pos h, e]
      rcases fold_says l (c + y) with ⟨h1, h2⟩ | h1
      · exact .inl ⟨h1, by rw [h2]; simp only [tt]; omega⟩
      · exact .inr h1
    · rw [if_neg (by omega)]; exact .inr h
theorem both_ways (p : List Int) (h : ∀ c ∈ p, InB c) (hn : p ≠ []) : ∃ s t : Int × Int, s = sumS 0 p ∧ evalS [] [] (addL true p) = outS s ∧ evalS [] [] (p.map pvO ++ List.replicate (p.length - 1) adO) = outS t ∧ ((s.2 = 0 ∧ s.1 = tt p) ∨ s.2 = 4) ∧ ((t.2 = 0 ∧ t.1 = tt p) ∨ t.2 = 4) := by
  have e : p.reverse ≠ [] := by simpa using hn
  obtain ⟨y, l, hr⟩ := List.exists_cons_of_ne_nil e
  have hlen : p.length - 1 = l.length := by
    have := congrArg List.length hr
    simp only [List.length_reverse, List.length_cons] at this
    omega
  have ht : tt p = y + tt l := by rw [← tt_reverse p, hr]; rfl
  refine ⟨sumS 0 p, foldS y l, rfl, add_eval p h hn, ?_, ?_, ?_⟩
  · rw [map_eval, hr, hlen, List.append_nil]
    exact rep_eval l y
  · have := sum_says p 0
    rwa [Int.zero_add] at this
  · rw [ht]; exact fold_says l y
end Go.Proofs.Ytconpnagoijacaa.P
namespace Go.Proofs.Ytconpnagoijacaa.P
open Go.RowKit Go.Proofs.YtconpnagoijacaaW.PrintWords Go.Proofs.YtconpnagoijacaaW.PrintLast Go.Proofs.YtconpnagoijacaaW.PrintMore
def cut60 (x : Int) : Int := Int.tmod x 1152921504606846976
theorem cut_in (x : Int) : InB (cut60 x) := by
  unfold cut60 InB
  have h1 := Int.tmod_lt_of_pos x (b := 1152921504606846976) (by decide)
  have h2 : -(1152921504606846976 : Int) < Int.tmod x 1152921504606846976 := by
    have := Int.tmod_lt_of_pos (-x) (b := 1152921504606846976) (by decide)
    rw [Int.neg_tmod] at this
    omega
  omega
theorem rdI_nth (l : List Int) (i : Nat) (h : i < l.length) : rd l i = l[i] := by simp [rd, List.getD_eq_getElem?_getD, h]
theorem cuts_succ (l : List Int) (i : Nat) (h : i < l.length) : (l.take (i + 1)).map cut60 = (l.take i).map cut60 ++ [cut60 l[i]] := by
  rw [List.take_succ_eq_append_getElem h, List.map_append]; rfl
theorem sums_l1 (l : List Int) (hl : l.length ≤ 8) (A : List S52) (fin : Ev (fun k => constablelaw07_ExprSums.l1 k l A ((l.map cut60).map pvO ++ List.replicate (l.length - 1) adO) (l.map cut60) l.length) true) :
    ∀ (d i : Nat), i + d = l.length → Ev (fun k => constablelaw07_ExprSums.l1 k l A ((l.map cut60).map pvO ++ List.replicate (i - 1) adO) ((l.take i).map cut60) i) true := by
  intro d
  induction d with
  | zero =>
    intro i hi
    have e : i = l.length := by omega
    subst e
    rw [List.take_length]
    exact fin
  | succ d ih =>
    intro i hi
    have hlt : i < l.length := by omega
    have hn := ih (i + 1) (by omega)
    rw [cuts_succ l i hlt] at hn
    refine evShift ?_
    simp only [constablelaw07_ExprSums.l1, rdI_nth l i hlt, wrap_succ hlt (by omega), Option.bind_some]
    refine evPos (by omega) (evPos (by omega) (evPos (by simp; omega) ?_))
    show Ev (fun k => if (i : Int) > 0 then (if ((l.map cut60).map pvO ++ List.replicate (i - 1) adO).length < 2513169434916 then (constablelaw07_ExprSums.l1 k l A (((l.map cut60).map pvO ++ List.replicate (i - 1) adO) ++ [adO]) ((l.take i).map cut60 ++ [cut60 l[i]]) ((i + 1 : Nat) : Int)) else none) else (constablelaw07_ExprSums.l1 k l A ((l.map cut60).map pvO ++ List.replicate (i - 1) adO) ((l.take i).map cut60 ++ [cut60 l[i]]) ((i + 1 : Nat) : Int))) true
    refine evIf (fun h0 => evPos (by simp; omega) ?_) (fun h0 => ?_)
    · have e : ((l.map cut60).map pvO ++ List.replicate (i - 1) adO) ++ [adO] = (l.map cut60).map pvO ++ List.replicate (i + 1 - 1) adO := by
        rw [List.append_assoc, ← List.replicate_succ', show i - 1 + 1 = i + 1 - 1 by omega]
      rw [e]; exact hn
    · rw [show i - 1 = i + 1 - 1 by omega]; exact hn
theorem sums_l0 (l : List Int) (hl : l.length ≤ 8) (fin : Ev (fun k => constablelaw07_ExprSums.l0 k l (addL true (l.map cut60)) ((l.map cut60).map pvO) l.length) true) :
    ∀ (d i : Nat), i + d = l.length → Ev (fun k => constablelaw07_ExprSums.l0 k l (addL true ((l.take i).map cut60)) (((l.take i).map cut60).map pvO) i) true := by
  intro d
  induction d with
  | zero =>
    intro i hi
    have e : i = l.length := by omega
    subst e
    rw [List.take_length]
    exact fin
  | succ d ih =>
    intro i hi
    have hlt : i < l.length := by omega
    have hn := ih (i + 1) (by omega)
    rw [cuts_succ l i hlt] at hn
    have hln : ((l.take i).map cut60).length = i := by simp; omega
    have hal : (addL true ((l.take i).map cut60)).length ≤ 2 * i := by
      by_cases h : (l.take i).map cut60 = []
      · rw [h]; exact Nat.zero_le _
      · have := add_len _ h
        omega
    refine evShift ?_
    simp only [constablelaw07_ExprSums.l0, rdI_nth l i hlt, wrap_succ hlt (by omega), Option.bind_some]
    refine evPos (by omega) (evPos (by omega) (evPos (by omega) (evPos (by simp; omega) ?_)))
    have em : ((l.take i).map cut60 ++ [cut60 l[i]]).map pvO = ((l.take i).map cut60).map pvO ++ [pvO (cut60 l[i])] := by rw [List.map_append]; rfl
    rw [em] at hn
    show Ev (fun k => if (i : Int) > 0 then (if (addL true ((l.take i).map cut60) ++ [pvO (cut60 l[i])]).length < 2513169434916 then (constablelaw07_ExprSums.l0 k l (addL true ((l.take i).map cut60) ++ [pvO (cut60 l[i])] ++ [adO]) (((l.take i).map cut60).map pvO ++ [pvO (cut60 l[i])]) ((i + 1 : Nat) : Int)) else none) else (constablelaw07_ExprSums.l0 k l (addL true ((l.take i).map cut60) ++ [pvO (cut60 l[i])]) (((l.take i).map cut60).map pvO ++ [pvO (cut60 l[i])]) ((i + 1 : Nat) : Int))) true
    refine evIf (fun h0 => evPos (by rw [List.length_append]; show _ + 1 < _; omega) ?_) (fun h0 => ?_)
    · rw [← add_snoc _ _ (fun h => by rw [h] at hln; simp at hln; omega)]
      exact hn
    · have e0 : i = 0 := by omega
      subst e0
      exact hn
end Go.Proofs.Ytconpnagoijacaa.P
namespace Go.Proofs.Ytconpnagoijacaa.Pure
open Go.RowKit Go.Proofs.Ytconpnagoijacaa.P Go.Proofs.YtconpnagoijacaaW.PrintWords Go.Proofs.YtconpnagoijacaaW.PrintLast Go.Proofs.YtconpnagoijacaaW.PrintMore
theorem ExprSums (l : List Int) (_hz0 : l.length ≤ maxLen ∧ l.length * 8 ≤ 140737488351232) (_ho0 : ∀ x ∈ l, (Lit.int .i64 x).wf = true) : ∃ k, constablelaw07_ExprSums.f k l = some true := by
  refine Ev.rounds (r := true) ?_
  have hw := wakesEnd wakes07_ev
  unfold constablelaw07_ExprSums.f
  have hj : Ev (fun k => constablelaw07_ExprSums.j0 k l true) true := by
    refine evShift ?_
    simp only [constablelaw07_ExprSums.j0, if_true]
    exact evSome rfl
  refine evIf (fun _ => hj) (fun hn0 => ?_)
  by_cases hl : (l.length : Int) > 8
  · rw [decide_eq_true hl]; exact hj
  rw [decide_eq_false hl]
  have hn : l.map cut60 ≠ [] := by
    intro h
    rw [List.map_eq_nil_iff] at h
    rw [h] at hn0
    exact hn0 rfl
  have hin : ∀ c ∈ l.map cut60, InB c := by
    intro c hc
    obtain ⟨x, _, rfl⟩ := List.mem_map.1 hc
    exact cut_in x
  obtain ⟨s, t, hs, e1, e2, c1, c2⟩ := both_ways (l.map cut60) hin hn
  rw [List.length_map] at e2
  have hal := add_len _ hn
  rw [List.length_map] at hal
  have hA : exprS (addL true (l.map cut60)) = true := expr_mk (by omega) (by omega) (add_deep _ hin hn)
  have hB : exprS ((l.map cut60).map pvO ++ List.replicate (l.length - 1) adO) = true := by
    refine expr_mk (by simp; omega) (by simp; omega) ?_
    rw [deep_append, map_deep _ _ hin, Option.bind_some, rep_deep _ _ (by simp; omega)]
    simp only [List.length_map]
    congr 1; omega
  have ops : ∀ x : List S52, (∀ o ∈ x, o = adO ∨ ∃ c, o = pvO c) → OpsOk x := by
    intro x hx o ho
    rcases hx o ho with rfl | ⟨c, rfl⟩
    · exact ⟨Nat.zero_le _, Nat.zero_le _⟩
    · exact ⟨Nat.zero_le _, Nat.zero_le _⟩
  have hoF : ∀ p : List Int, ∀ o ∈ addL false p, o = adO ∨ ∃ c, o = pvO c := by
    intro p
    induction p with
    | nil => intro o ho; cases ho
    | cons c p ih =>
      intro o ho
      simp only [addL, List.mem_cons] at ho
      rcases ho with rfl | rfl | ho
      · exact .inr ⟨_, rfl⟩
      · exact .inl rfl
      · exact ih o ho
  have hoA : OpsOk (addL true (l.map cut60)) := by
    refine ops _ ?_
    generalize l.map cut60 = p at hn
    match p, hn with
    | c :: p, _ =>
      intro o ho
      simp only [addL, List.mem_cons] at ho
      rcases ho with rfl | ho
      · exact .inr ⟨_, rfl⟩
      · exact hoF p o ho
  have hoB : OpsOk ((l.map cut60).map pvO ++ List.replicate (l.length - 1) adO) := by
    refine ops _ fun o ho => ?_
    rcases List.mem_append.1 ho with ho | ho
    · obtain ⟨c, _, rfl⟩ := List.mem_map.1 ho
      exact .inr ⟨c, rfl⟩
    · exact .inl (List.eq_of_mem_replicate ho)
  have hE : ∀ x, exprS x = true → evalE x [] = evalS [] [] x := fun x h => by unfold evalE; rw [h]; rfl
  have fin : Ev (fun k => constablelaw07_ExprSums.l1 k l (addL true (l.map cut60)) ((l.map cut60).map pvO ++ List.replicate (l.length - 1) adO) (l.map cut60) l.length) true := by
    refine evShift ?_
    simp only [constablelaw07_ExprSums.l1]
    refine evNeg (by omega) (Ev.bind (expr_Eval_ev _ [] hoA (by unfold maxLen; omega) (by intro x hx; cases hx) (by simp)) (Ev.bind (num_Sum_ev _ (by simp; omega)) (Ev.bind (expr_Eval_ev _ [] hoB (by simp; unfold maxLen; omega) (by intro x hx; cases hx) (by simp)) ?_)))
    rw [hE _ hA, hE _ hB, e1, e2, ← hs]
    have hs2 : (outS s).2 = s.2 := by unfold outS; split <;> simp_all
    have ht2 : (outS t).2 = t.2 := by unfold outS; split <;> simp_all
    show Ev (fun k => if (outS s).2 = s.2 then (if (outS s).2 = 0 then (if (outS s).1.f0 = 1 then (if (outS s).1.f1 = s.1 then (if (outS t).2 = 4 then ((constablelaw07_wakes.f k).bind fun t590 => (some t590)) else (if (outS s).2 = 4 then ((constablelaw07_wakes.f k).bind fun t591 => (some t591)) else (if (outS t).2 = 0 then (if ((outS t).1.f0 == (outS s).1.f0 && ((outS t).1.f1 == (outS s).1.f1 && ((outS t).1.f2.toList == (outS s).1.f2.toList))) = true then ((constablelaw07_wakes.f k).bind fun t592 => (some t592)) else (some false)) else (some false)))) else (some false)) else (some false)) else (if (outS t).2 = 4 then ((constablelaw07_wakes.f k).bind fun t593 => (some t593)) else (if (outS s).2 = 4 then ((constablelaw07_wakes.f k).bind fun t594 => (some t594)) else (if (outS t).2 = 0 then (if ((outS t).1.f0 == (outS s).1.f0 && ((outS t).1.f1 == (outS s).1.f1 && ((outS t).1.f2.toList == (outS s).1.f2.toList))) = true then ((constablelaw07_wakes.f k).bind fun t595 => (some t595)) else (some false)) else (some false))))) else (some false)) true
    rw [hs2, ht2]
    refine evPos rfl ?_
    have o0 : ∀ r : Int × Int, r.2 = 0 → outS r = (vN r.1, 0) := fun r h => by unfold outS; rw [if_pos h]
    rcases c1 with ⟨h1, v1⟩ | h1
    · rw [o0 s h1]
      refine evPos h1 (evPos rfl (evPos rfl ?_))
      rcases c2 with ⟨h2, v2⟩ | h2
      · rw [o0 t h2]
        refine evNeg (by omega) (evNeg (by omega) (evPos h2 (evPos ?_ hw)))
        rw [v1, v2]
        simp
      · exact evPos h2 hw
    · refine evNeg (by omega) ?_
      by_cases h2 : t.2 = 4
      · exact evPos h2 hw
      · exact evNeg h2 (evPos h1 hw)
  refine evShift ?_
  simp only [constablelaw07_ExprSums.j0, Bool.false_eq_true, if_false]
  have hl8 : l.length ≤ 8 := by omega
  have l1 := sums_l1 l hl8 _ fin l.length 0 (by omega)
  have l0 := sums_l0 l hl8 (by
    refine evShift ?_
    simp only [constablelaw07_ExprSums.l0]
    refine evNeg (by omega) ?_
    simpa using l1) l.length 0 (by omega)
  exact l0
end Go.Proofs.Ytconpnagoijacaa.Pure
end
