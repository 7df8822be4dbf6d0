/- Part 3 of the proof of ValExact: words, contracts of functions of the program (what a call answers), and what the answers say. -/
import Derived.Lib.Bytes
import Derived.Laws.BitsLemmas
import Derived.Laws.Bits64
import Derived.Lib.ItoaNum
import Derived.Lib.LazyBuf
import Derived.Lib.ItoaLen
import Derived.ChangeArms
import Derived.DataElems
import Derived.DataReads
import Derived.SizedLaws
import Derived.ChangeSlices
import Derived.RowKit
import Derived.WideShapes
import Derived.ChangeShapes
import Derived.KernelRfl
import Derived.Test.YtaopajmpifenoaaDoorRows
import Derived.LaidMore
import Derived.Stop.LaidErr
import Derived.Lib.LaidTab
import Derived.MakeChecks
import Derived.LaidLaws
import Derived.Test.YtaopajmpifenoaaDoorVWords
import Derived.Test.YtaopajmpifenoaaDoorVLast
import Derived.Test.YtaopajmpifenoaaDoorVApart
import Derived.Test.YtaopajmpifenoaaDoorVArr
import Derived.Test.YtaopajmpifenoaaDoorVFoot
import Derived.Test.YtaopajmpifenoaaDoorVKept
import Derived.Test.YtaopajmpifenoaaDoorVShare
import Derived.Test.YtaopajmpifenoaaDoorVZeros
import Derived.Test.YtaopajmpifenoaaDoorVN
import Derived.Test.YtaopajmpifenoaaDoorVFootNe
import Derived.Test.YtaopajmpifenoaaDoorVAt
import Derived.Test.YtaopajmpifenoaaDoorVEqStruct
import Derived.Test.YtaopajmpifenoaaDoorVTab
import Derived.Test.YtaopajmpifenoaaDoorVFour
import Derived.Test.YtaopajmpifenoaaDoorVGuard
import Derived.Test.YtaopajmpifenoaaDoorVInv
import Derived.Test.YtaopajmpifenoaaDoorVInvWords
import Derived.Test.YtaopajmpifenoaaDoorVQPut
import Derived.Test.YtaopajmpifenoaaDoorVNEv
import Derived.Test.YtaopajmpifenoaaDoorVMore
import Derived.Test.YtaopajmpifenoaaDoorVRepsOne
import Derived.Test.YtaopajmpifenoaaDoorVSized
import Derived.Test.YtaopajmpifenoaaDoorCValExact0
import Derived.Test.YtaopajmpifenoaaDoorCValExact1
section
namespace Go.Proofs.YtaopajmpifenoaaDoor.P
open Go.RowKit Go.Proofs.YtaopajmpifenoaaDoorW.PrintWords Go.Proofs.YtaopajmpifenoaaDoorW.PrintLast Go.Proofs.YtaopajmpifenoaaDoorW.PrintMore
theorem len_codes (s : ByteArray) : (bytesOf s).length = s.size := by simp [bytesOf]
theorem bt_codes (s : ByteArray) (i : Int) : bt s i = rd (bytesOf s) i := (rd_bytesOf s i).symm
theorem codes_inj {s t : ByteArray} (h : bytesOf s = bytesOf t) : s = t := by
  have h2 : s.data.toList = t.data.toList := by
    unfold bytesOf at h
    have inj : ∀ (a b : List UInt8), a.map (fun b => ((b.toNat : Nat) : Int)) = b.map (fun b => ((b.toNat : Nat) : Int)) → a = b := by
      intro a
      induction a with
      | nil => intro b hb; cases b with
        | nil => rfl
        | cons y b => simp at hb
      | cons x a ih => intro b hb; cases b with
        | nil => simp at hb
        | cons y b =>
          simp only [List.map_cons, List.cons.injEq] at hb
          have e : x = y := UInt8.toNat_inj.1 (by omega)
          rw [e, ih b hb.2]
    exact inj _ _ h
  cases s with | mk a => cases t with | mk b => cases a; cases b; simp at h2; rw [h2]
theorem tl_data (s : ByteArray) : s.toList = s.data.toList := Lib.toList_data s
theorem tl_inj {s t : ByteArray} : s.toList = t.toList ↔ s = t := by
  constructor
  · intro h
    rw [tl_data, tl_data] at h
    exact codes_inj (by unfold bytesOf; rw [h])
  · intro h; rw [h]
theorem tl_beq (s t : ByteArray) : (s.toList == t.toList) = decide (s = t) := by
  rw [Bool.eq_iff_iff, beq_iff_eq, decide_eq_true_eq, tl_inj]
theorem tl_nil {s : ByteArray} : s.toList = [] ↔ s = ⟨#[]⟩ := by
  rw [← tl_inj]
  have : (⟨#[]⟩ : ByteArray).toList = [] := by rw [tl_data]
  rw [this]
theorem tl_beq_nil (s : ByteArray) : (s.toList == ([] : List UInt8)) = decide (s = ⟨#[]⟩) := by
  rw [Bool.eq_iff_iff, beq_iff_eq, decide_eq_true_eq, tl_nil]
theorem size_zero {s : ByteArray} : s.size = 0 ↔ s = ⟨#[]⟩ := by
  constructor
  · intro h
    apply codes_inj
    have : (bytesOf s).length = 0 := by rw [len_codes]; exact h
    rw [List.eq_nil_of_length_eq_zero this]; rfl
  · intro h; rw [h]; rfl
theorem rd_mid {p : List Int} {x : Int} {l : List Int} : rd (p ++ x :: l) p.length = x := by simp [rd, List.getD_eq_getElem?_getD]
theorem codes_split (s : ByteArray) (i : Nat) (h : i < s.size) : ∃ x, (bytesOf s).drop i = x :: (bytesOf s).drop (i + 1) ∧ bt s i = x := by
  have hl : i < (bytesOf s).length := by rw [len_codes]; exact h
  refine ⟨(bytesOf s)[i], ?_, ?_⟩
  · exact List.drop_eq_getElem_cons hl
  · rw [bt_codes]
    simp [rd, List.getD_eq_getElem?_getD, hl]
theorem back_ind {ρ : Type} (n : Nat) (l : Nat → Int → Option ρ) (spec : Nat → ρ) (hend : Ev (fun k => l k n) (spec n))
    (hstep : ∀ i : Nat, i < n → Ev (fun k => l k ((i + 1 : Nat) : Int)) (spec (i + 1)) → Ev (fun k => l k i) (spec i)) : ∀ i : Nat, i ≤ n → Ev (fun k => l k i) (spec i) := by
  intro i hi
  obtain ⟨d, rfl⟩ : ∃ d, n = i + d := ⟨n - i, by omega⟩
  induction d generalizing i with
  | zero => exact hend
  | succ d ih =>
    refine hstep i (by omega) ?_
    have := ih (i + 1) (by rw [show i + 1 + d = i + (d + 1) by omega]; exact hend) (fun j hj => hstep j (by omega)) (by omega)
    exact this
theorem wrap_succ {i n : Nat} (h : i < n) (hn : n ≤ 9223372036854775807) : wrap64 ((i : Int) + 1) = ((i + 1 : Nat) : Int) := by unfold wrap64; omega
theorem rdOf_nth {α : Type} (d : α) (l : List α) (i : Nat) (h : i < l.length) : rdOf d l i = l[i] := by simp [rdOf, List.getD_eq_getElem?_getD, h]
end Go.Proofs.YtaopajmpifenoaaDoor.P
end
section
namespace Go.Proofs.YtaopajmpifenoaaDoor.P
open Go.RowKit Go.Proofs.YtaopajmpifenoaaDoorW.PrintWords Go.Proofs.YtaopajmpifenoaaDoorW.PrintLast Go.Proofs.YtaopajmpifenoaaDoorW.PrintMore
def InB (a : Int) : Prop := -4611686018427387904 ≤ a ∧ a ≤ 4611686018427387904
instance (a : Int) : Decidable (InB a) := inferInstanceAs (Decidable (_ ∧ _))
def doS (kind a b : Int) : Int × Int :=
  if kind = 3 ∨ kind = 4 ∨ kind = 5 then
    if InB a ∧ InB b then
      if InB (if kind = 3 then a + b else if kind = 4 then a - b else a * b) then (if kind = 3 then a + b else if kind = 4 then a - b else a * b, 0) else (0, 4)
    else (0, 4)
  else (0, 3)
theorem InB_iff (a : Int) : InB a ↔ -4611686018427387904 ≤ a ∧ a ≤ 4611686018427387904 := Iff.rfl
theorem and_low {a : Int} (h0 : 0 ≤ a) (h1 : a < 18446744073709551616) : Go.bits .and .u64 a 4294967295 = a % 4294967296 :=
  bits_mask .u64 64 (by decide) (fun n h0 h1 => by rw [IntKind.wrap_u64]; omega) 32 (by decide) a h0 h1
theorem mul_parts (a b : Int) : a * b = (a / 4294967296) * (b / 4294967296) * 18446744073709551616 + ((a / 4294967296) * (b % 4294967296) + (a % 4294967296) * (b / 4294967296)) * 4294967296 + (a % 4294967296) * (b % 4294967296) := by
  have ha : a = 4294967296 * (a / 4294967296) + a % 4294967296 := by omega
  have hb : b = 4294967296 * (b / 4294967296) + b % 4294967296 := by omega
  generalize a / 4294967296 = x at *
  generalize a % 4294967296 = y at *
  generalize b / 4294967296 = z at *
  generalize b % 4294967296 = t at *
  subst ha hb
  grind
theorem mul_le2 {a b m n : Int} (h0 : 0 ≤ a) (h1 : a ≤ m) (h2 : 0 ≤ b) (h3 : b ≤ n) : 0 ≤ a * b ∧ a * b ≤ m * n :=
  ⟨Int.mul_nonneg h0 h2, Int.mul_le_mul h1 h3 h2 (by omega)⟩
theorem abs_mul (a b : Int) : (if a < 0 then -a else a) * (if b < 0 then -b else b) = if (decide (a < 0) != decide (b < 0)) = true then -(a * b) else a * b := by
  by_cases h1 : a < 0 <;> by_cases h2 : b < 0 <;> simp [h1, h2, Int.neg_mul, Int.mul_neg]
def sumS (acc : Int) : List Int → Int × Int
  | [] => (acc, 0)
  | x :: l => if (doS 3 acc x).2 = 0 then sumS (doS 3 acc x).1 l else (0, (doS 3 acc x).2)
theorem rd_at (p : List Int) (x : Int) (l : List Int) : rd (p ++ x :: l) p.length = x := by
  simp [rd, List.getD_eq_getElem?_getD]
theorem wrap_len (p : List Int) (h : p.length ≤ 140737488351232) : wrap64 ((p.length : Int) + 1) = (p.length : Int) + 1 := by unfold wrap64; omega
end Go.Proofs.YtaopajmpifenoaaDoor.P
end
section
namespace Go.Proofs.YtaopajmpifenoaaDoor.P
open Go.RowKit Go.Proofs.YtaopajmpifenoaaDoorW.PrintWords Go.Proofs.YtaopajmpifenoaaDoorW.PrintLast Go.Proofs.YtaopajmpifenoaaDoorW.PrintMore
def smallI (c : Int) : Bool := decide (97 ≤ c ∧ c ≤ 122)
def largeI (c : Int) : Bool := decide (65 ≤ c ∧ c ≤ 90)
def digitI (c : Int) : Bool := decide (48 ≤ c ∧ c ≤ 57)
def innerI (c : Int) : Bool := smallI c || largeI c || digitI c || c == 95
def plainI (c : Int) : Bool := decide (32 ≤ c ∧ c ≤ 126)
def wordS (large : Bool) (s : ByteArray) : Bool :=
  decide (1 ≤ s.size ∧ s.size ≤ 24) && (if large then largeI (bt s 0) else smallI (bt s 0)) && (bytesOf s).all innerI
def valS (kind n : Int) (s : ByteArray) : Bool :=
  if kind = 1 then decide (InB n) && decide (s = ⟨#[]⟩)
  else if kind = 2 then decide (n = 0) && wordS false s
  else if kind = 3 then decide (n = 0) && (bytesOf s).all plainI && decide (s.size ≤ 60)
  else false
theorem val_small_eq (c : Int) : val_small.f c = some (smallI c) := by
  unfold val_small.f smallI
  split
  · congr 1; rw [decide_eq_decide]; omega
  · congr 1; symm; rw [decide_eq_false_iff_not]; omega
theorem val_large_eq (c : Int) : val_large.f c = some (largeI c) := by
  unfold val_large.f largeI
  split
  · congr 1; rw [decide_eq_decide]; omega
  · congr 1; symm; rw [decide_eq_false_iff_not]; omega
theorem val_digit_eq (c : Int) : val_digit.f c = some (digitI c) := by
  unfold val_digit.f digitI
  split
  · congr 1; rw [decide_eq_decide]; omega
  · congr 1; symm; rw [decide_eq_false_iff_not]; omega
theorem all_drop {P : Int → Bool} {s : ByteArray} {i : Nat} (h : i < s.size) : ((bytesOf s).drop i).all P = (P (bt s i) && ((bytesOf s).drop (i + 1)).all P) := by
  obtain ⟨x, h1, h2⟩ := codes_split s i h
  rw [h1, h2]; rfl
theorem drop_end (s : ByteArray) : (bytesOf s).drop s.size = [] := by rw [← len_codes s]; exact List.drop_length
theorem val_symbol_l0 (s : ByteArray) (hs : s.size ≤ maxLen) : ∀ i : Nat, i ≤ s.size → Ev (fun k => val_symbol.l0 k s s.size i) (((bytesOf s).drop i).all innerI) := by
  unfold maxLen at hs
  refine back_ind s.size (fun k i => val_symbol.l0 k s s.size i) _ ?_ ?_
  · refine evShift ?_
    simp only [val_symbol.l0]
    refine evNeg (by omega) (evSome (by rw [drop_end]; rfl))
  · intro i hi ih
    refine evShift ?_
    simp only [val_symbol.l0, val_small_eq, val_large_eq, val_digit_eq, Option.bind_some]
    refine evPos (by omega) (evPos (by omega) (evPos (by omega) ?_))
    rw [all_drop hi, wrap_succ hi (by omega)]
    have e : innerI (bt s i) = (smallI (bt s i) || largeI (bt s i) || digitI (bt s i) || bt s i == 95) := rfl
    by_cases h1 : smallI (bt s i) = true
    · rw [e, h1]; simpa using ih
    · by_cases h2 : largeI (bt s i) = true
      · rw [e, h2]; simpa [h1] using ih
      · by_cases h3 : digitI (bt s i) = true
        · rw [e, h3]; simpa [h1, h2] using ih
        · by_cases h4 : bt s i = 95
          · rw [e]; simpa [h1, h2, h3, h4] using ih
          · rw [e]; simp [h1, h2, h3, h4]; exact evSome (by simp [h4])
theorem val_symbol_ev (s : ByteArray) (hs : s.size ≤ maxLen) : Ev (fun k => val_symbol.f k s) (wordS false s) := by
  have hl := val_symbol_l0 s hs 0 (by omega)
  simp only [List.drop_zero, Int.natCast_zero] at hl
  have hj : Ev (fun k => val_symbol.j0 k s true) false := by
    refine evShift ?_
    simp only [val_symbol.j0, if_true]
    exact evSome rfl
  unfold val_symbol.f wordS
  by_cases h1 : (s.size : Int) < 1
  · refine evPos h1 ?_
    have hd : decide (1 ≤ s.size ∧ s.size ≤ 24) = false := decide_eq_false (by omega)
    rw [hd]; exact hj
  · refine evNeg h1 ?_
    by_cases h2 : (s.size : Int) > 24
    · refine evPos h2 ?_
      have hd : decide (1 ≤ s.size ∧ s.size ≤ 24) = false := decide_eq_false (by omega)
      rw [hd]; exact hj
    · refine evNeg h2 (evPos (by omega) ?_)
      have hd : decide (1 ≤ s.size ∧ s.size ≤ 24) = true := decide_eq_true (by omega)
      rw [hd]
      simp only [val_small_eq, Option.bind_some, Bool.true_and]
      by_cases h3 : smallI (bt s 0) = true
      · simp only [h3, Bool.not_true]
        refine evShift ?_
        simp only [val_symbol.j0, Bool.false_eq_true, if_false]
        exact hl
      · replace h3 := Bool.eq_false_iff.mpr h3
        simp only [h3, Bool.not_false]
        exact hj
theorem val_plain_ev (s : ByteArray) (hs : s.size ≤ maxLen) : Ev (fun k => val_plain.f k s) ((bytesOf s).all plainI && decide (s.size ≤ 60)) := by
  have h : ∀ i : Nat, i ≤ s.size → Ev (fun k => val_plain.l0 k s s.size i) (((bytesOf s).drop i).all plainI && decide (s.size ≤ 60)) := by
    unfold maxLen at hs
    refine back_ind s.size (fun k i => val_plain.l0 k s s.size i) _ ?_ ?_
    · refine evShift ?_
      simp only [val_plain.l0]
      refine evNeg (by omega) (evSome (by rw [drop_end]; simp; omega))
    · intro i hi ih
      refine evShift ?_
      simp only [val_plain.l0]
      refine evPos (by omega) (evPos (by omega) (evPos (by omega) ?_))
      rw [all_drop hi, wrap_succ hi (by omega)]
      by_cases h1 : bt s i < 32
      · refine evPos h1 (evSome ?_)
        have : plainI (bt s i) = false := decide_eq_false (by omega)
        rw [this]; rfl
      · refine evNeg h1 ?_
        by_cases h2 : bt s i > 126
        · refine evPos h2 (evSome ?_)
          have : plainI (bt s i) = false := decide_eq_false (by omega)
          rw [this]; rfl
        · refine evNeg h2 ?_
          have : plainI (bt s i) = true := decide_eq_true (by omega)
          rw [this]; exact ih
  have := h 0 (by omega)
  simpa [val_plain.f] using this
theorem val_Check_ev (kind n : Int) (s : ByteArray) (hs : s.size ≤ maxLen) : Ev (fun k => val_Check.f k kind n s) (if valS kind n s then 0 else 1) := by
  unfold val_Check.f valS
  by_cases h1 : kind = 1
  · refine evPos h1 ?_
    rw [if_pos h1]
    by_cases h2 : n ≥ -4611686018427387904
    · refine evPos h2 ?_
      by_cases h3 : n ≤ 4611686018427387904
      · refine evPos h3 ?_
        rw [decide_eq_true ((InB_iff n).2 ⟨h2, h3⟩)]
        by_cases h4 : s = ⟨#[]⟩
        · exact evPos (tl_nil.2 h4) (evSome (by simp [h4]))
        · exact evNeg (fun e => h4 (tl_nil.1 e)) (evSome (by simp [h4]))
      · exact evNeg h3 (evSome (by rw [decide_eq_false (fun h => h3 ((InB_iff n).1 h).2)]; rfl))
    · exact evNeg h2 (evSome (by rw [decide_eq_false (fun h => h2 ((InB_iff n).1 h).1)]; rfl))
  · refine evNeg h1 ?_
    rw [if_neg h1]
    by_cases h2 : kind = 2
    · refine evPos h2 ?_
      rw [if_pos h2]
      by_cases h3 : n = 0
      · refine evPos h3 (Ev.bind (val_symbol_ev s hs) ?_)
        rw [decide_eq_true h3]
        cases wordS false s <;> exact evSome rfl
      · refine evNeg h3 (evSome ?_)
        rw [decide_eq_false h3]; rfl
    · refine evNeg h2 ?_
      rw [if_neg h2]
      by_cases h3 : kind = 3
      · refine evPos h3 ?_
        rw [if_pos h3]
        by_cases h4 : n = 0
        · refine evPos h4 (Ev.bind (val_plain_ev s hs) ?_)
          rw [decide_eq_true h4, Bool.true_and]
          cases ((bytesOf s).all plainI && decide (s.size ≤ 60)) <;> exact evSome rfl
        · refine evNeg h4 (evSome ?_)
          rw [decide_eq_false h4]; rfl
      · refine evNeg h3 (evSome ?_)
        rw [if_neg h3]; rfl
end Go.Proofs.YtaopajmpifenoaaDoor.P
end
section
namespace Go.Proofs.YtaopajmpifenoaaDoor.P
open Go.RowKit Go.Proofs.YtaopajmpifenoaaDoorW.PrintWords Go.Proofs.YtaopajmpifenoaaDoorW.PrintLast Go.Proofs.YtaopajmpifenoaaDoorW.PrintMore
theorem ref_In_eq (a b c : Int) : constableref01_In.f a b c = some (decide (b ≤ a ∧ a ≤ c)) := by
  unfold constableref01_In.f
  split
  · congr 1; rw [decide_eq_decide]; omega
  · congr 1; symm; rw [decide_eq_false_iff_not]; omega
theorem abs_mul_abs (a b : Int) : (if a < -a then -a else a) * (if b < -b then -b else b) = if a * b < 0 then -(a * b) else a * b := by
  by_cases ha : a < -a <;> by_cases hb : b < -b <;> simp only [ha, hb, if_true, if_false]
  · have : 0 < a * b := Int.mul_pos_of_neg_of_neg (by omega) (by omega)
    rw [if_neg (by omega)]; exact Int.neg_mul_neg a b
  · have : a * b ≤ 0 := Int.mul_nonpos_of_nonpos_of_nonneg (by omega) (by omega)
    rw [Int.neg_mul]; split <;> omega
  · have : a * b ≤ 0 := Int.mul_nonpos_of_nonneg_of_nonpos (by omega) (by omega)
    rw [Int.mul_neg]; split <;> omega
  · have : 0 ≤ a * b := Int.mul_nonneg (by omega) (by omega)
    rw [if_neg (by omega)]
theorem ref_over {a b : Int} (ha : InB a) (hb : InB b) (hb0 : b ≠ 0) :
    (mx a (wrap64 (-a)) > wrap64 (Int.tdiv 4611686018427387904 (mx b (wrap64 (-b))))) ↔ ¬ InB (a * b) := by
  rw [InB_iff] at ha hb
  have e1 : wrap64 (-a) = -a := by unfold wrap64; omega
  have e2 : wrap64 (-b) = -b := by unfold wrap64; omega
  rw [e1, e2]
  have m1 : mx a (-a) = if a < -a then -a else a := rfl
  have m2 : mx b (-b) = if b < -b then -b else b := rfl
  have hm := abs_mul_abs a b
  rw [← m1, ← m2] at hm
  have p1 : 0 ≤ mx a (-a) := by rw [m1]; split <;> omega
  have p2 : 0 < mx b (-b) := by rw [m2]; split <;> omega
  generalize mx a (-a) = x at *
  generalize mx b (-b) = y at *
  rw [Int.tdiv_eq_ediv_of_nonneg (by decide)]
  have h1 : 4611686018427387904 / y ≤ 4611686018427387904 := Int.ediv_le_self _ (by decide)
  have h2 : 0 ≤ 4611686018427387904 / y := Int.ediv_nonneg (by decide) (by omega)
  have e3 : wrap64 (4611686018427387904 / y) = 4611686018427387904 / y := by unfold wrap64; omega
  rw [e3, InB_iff]
  have h3 : 4611686018427387904 / y < x ↔ 4611686018427387904 < x * y := Int.ediv_lt_iff_lt_mul p2
  rw [gt_iff_lt, h3, hm]
  split <;> omega
end Go.Proofs.YtaopajmpifenoaaDoor.P
end
section
namespace Go.Proofs.YtaopajmpifenoaaDoor.P
open Go.RowKit Go.Proofs.YtaopajmpifenoaaDoorW.PrintWords Go.Proofs.YtaopajmpifenoaaDoorW.PrintLast Go.Proofs.YtaopajmpifenoaaDoorW.PrintMore
theorem ref_Lower_eq (c : Int) : constableref01_Lower.f c = some (smallI c) := by
  unfold constableref01_Lower.f smallI
  split
  · congr 1; rw [decide_eq_decide]; omega
  · congr 1; symm; rw [decide_eq_false_iff_not]; omega
theorem ref_Upper_eq (c : Int) : constableref01_Upper.f c = some (largeI c) := by
  unfold constableref01_Upper.f largeI
  split
  · congr 1; rw [decide_eq_decide]; omega
  · congr 1; symm; rw [decide_eq_false_iff_not]; omega
theorem ref_Digit_eq (c : Int) : constableref01_Digit.f c = some (digitI c) := by
  unfold constableref01_Digit.f digitI
  split
  · congr 1; rw [decide_eq_decide]; omega
  · congr 1; symm; rw [decide_eq_false_iff_not]; omega
theorem ref_inner_eq (c : Int) : constableref01_inner.f c = some (innerI c) := by
  unfold constableref01_inner.f innerI
  simp only [ref_Lower_eq, ref_Upper_eq, ref_Digit_eq, Option.bind_some]
  cases smallI c <;> cases largeI c <;> cases digitI c <;> simp
theorem ref_Word_l0 (s : ByteArray) (hs : s.size ≤ maxLen) : ∀ i : Nat, i ≤ s.size → Ev (fun k => constableref01_Word.l0 k s i) (((bytesOf s).drop i).all innerI) := by
  unfold maxLen at hs
  refine back_ind s.size (fun k i => constableref01_Word.l0 k s i) _ ?_ ?_
  · refine evShift ?_
    simp only [constableref01_Word.l0]
    refine evNeg (by omega) (evSome (by rw [drop_end]; rfl))
  · intro i hi ih
    refine evShift ?_
    simp only [constableref01_Word.l0, ref_inner_eq, Option.bind_some]
    refine evPos (by omega) (evPos (by omega) ?_)
    rw [all_drop hi, wrap_succ hi (by omega)]
    by_cases h1 : innerI (bt s i) = true
    · rw [h1]; simpa using ih
    · simp [h1]; exact evSome rfl
theorem not_both (c : Int) : largeI c = true → smallI c = false := by
  unfold largeI smallI
  intro h
  rw [decide_eq_true_eq] at h
  exact decide_eq_false (by omega)
theorem ref_Word_ev (s : ByteArray) (large : Bool) (hs : s.size ≤ maxLen) : Ev (fun k => constableref01_Word.f k s large) (wordS large s) := by
  have hl := ref_Word_l0 s hs 0 (by omega)
  simp only [List.drop_zero, Int.natCast_zero] at hl
  have hj : Ev (fun k => constableref01_Word.j0 k s true) false := by
    refine evShift ?_
    simp only [constableref01_Word.j0, if_true]
    exact evSome rfl
  have hj2 : Ev (fun k => constableref01_Word.j0 k s false) ((bytesOf s).all innerI) := by
    refine evShift ?_
    simp only [constableref01_Word.j0, Bool.false_eq_true, if_false]
    exact hl
  unfold constableref01_Word.f wordS
  simp only [ref_In_eq, ref_Upper_eq, ref_Lower_eq, Option.bind_some]
  by_cases h1 : 1 ≤ s.size ∧ s.size ≤ 24
  · have hd : decide (1 ≤ s.size ∧ s.size ≤ 24) = true := decide_eq_true h1
    have hd' : decide ((1 : Int) ≤ s.size ∧ (s.size : Int) ≤ 24) = true := decide_eq_true (by omega)
    rw [hd, hd']
    refine evPos rfl (evPos (by omega) ?_)
    have hb := not_both (bt s 0)
    cases large <;> cases h2 : largeI (bt s 0) <;> simp [h2] at hb ⊢
    · cases h3 : smallI (bt s 0)
      · simp; exact hj
      · simp; exact hj2
    · rw [hb]; simp; exact hj
    · exact hj
    · exact hj2
  · have hd : decide (1 ≤ s.size ∧ s.size ≤ 24) = false := decide_eq_false h1
    have hd' : decide ((1 : Int) ≤ s.size ∧ (s.size : Int) ≤ 24) = false := decide_eq_false (by omega)
    rw [hd, hd']
    exact evNeg (by decide) hj
theorem ref_Value_l0 (a b : Int) (s : ByteArray) (hs : s.size ≤ maxLen) : ∀ i : Nat, i ≤ s.size → Ev (fun k => constableref01_Value.l0 k i a b s) (((bytesOf s).drop i).all plainI) := by
  unfold maxLen at hs
  refine back_ind s.size (fun k i => constableref01_Value.l0 k i a b s) _ ?_ ?_
  · refine evShift ?_
    simp only [constableref01_Value.l0]
    refine evNeg (by omega) (evSome (by rw [drop_end]; rfl))
  · intro i hi ih
    refine evShift ?_
    simp only [constableref01_Value.l0, ref_In_eq, Option.bind_some]
    refine evPos (by omega) (evPos (by omega) ?_)
    rw [all_drop hi, wrap_succ hi (by omega)]
    have hr := bt_range s i
    have hw : wrap64 (bt s i) = bt s i := by unfold wrap64; omega
    rw [hw]
    have e : decide (32 ≤ bt s i ∧ bt s i ≤ 126) = plainI (bt s i) := rfl
    rw [e]
    by_cases h1 : plainI (bt s i) = true
    · rw [h1]; simpa using ih
    · simp [h1]; exact evSome rfl
theorem ref_Value_ev (kind n : Int) (s : ByteArray) (hs : s.size ≤ maxLen) : Ev (fun k => constableref01_Value.f k kind n s) (valS kind n s) := by
  unfold constableref01_Value.f valS
  by_cases h1 : kind = 1
  · refine evPos h1 ?_
    rw [if_pos h1]
    simp only [ref_In_eq, Option.bind_some]
    have i1 : decide (-4611686018427387904 ≤ n ∧ n ≤ 4611686018427387904) = decide (InB n) := rfl
    rw [i1]
    by_cases h2 : InB n
    · rw [decide_eq_true h2]
      refine evPos rfl (evSome ?_)
      rw [Bool.eq_iff_iff]
      simp [← size_zero]
    · rw [decide_eq_false h2]
      exact evNeg (by decide) (evSome rfl)
  · refine evNeg h1 ?_
    rw [if_neg h1]
    by_cases h2 : kind = 2
    · refine evPos h2 ?_
      rw [if_pos h2]
      by_cases h3 : n = 0
      · refine evPos h3 (Ev.bind (ref_Word_ev s false hs) (evSome ?_))
        rw [decide_eq_true h3]; simp
      · refine evNeg h3 (evSome ?_)
        rw [decide_eq_false h3]; rfl
    · refine evNeg h2 ?_
      rw [if_neg h2]
      by_cases h3 : kind = 3
      · refine evPos h3 ?_
        rw [if_pos h3]
        by_cases h4 : n = 0
        · refine evPos h4 (evShift ?_)
          rw [decide_eq_true h4]
          simp only [constableref01_Value.j0]
          by_cases h5 : (s.size : Int) > 60
          · refine evPos (decide_eq_true h5) (evSome ?_)
            have : decide (s.size ≤ 60) = false := decide_eq_false (by omega)
            rw [this]; simp
          · refine evNeg (by rw [decide_eq_false h5]; decide) ?_
            have : decide (s.size ≤ 60) = true := decide_eq_true (by omega)
            rw [this]
            have := ref_Value_l0 kind n s hs 0 (by omega)
            simpa using this
        · refine evNeg h4 (evShift ?_)
          simp only [constableref01_Value.j0, if_true]
          refine evSome ?_
          rw [decide_eq_false h4]; rfl
      · refine evNeg h3 (evSome ?_)
        rw [if_neg h3]
end Go.Proofs.YtaopajmpifenoaaDoor.P
end
section
namespace Go.Proofs.YtaopajmpifenoaaDoor.P
open Go.RowKit Go.Proofs.YtaopajmpifenoaaDoorW.PrintWords Go.Proofs.YtaopajmpifenoaaDoorW.PrintLast Go.Proofs.YtaopajmpifenoaaDoorW.PrintMore
theorem cb_zero : ∀ a b : List UInt8, Lib.compareBytes a b = 0 ↔ a = b
  | [], [] => by simp [Lib.compareBytes]
  | [], _ :: _ => by simp [Lib.compareBytes]
  | _ :: _, [] => by simp [Lib.compareBytes]
  | x :: a, y :: b => by
    have ih := cb_zero a b
    simp only [Lib.compareBytes, List.cons.injEq]
    by_cases h : x < y
    · rw [if_pos h]
      refine ⟨fun h => absurd h (by decide), fun e => ?_⟩
      rw [e.1] at h; exact absurd h (UInt8.lt_irrefl y)
    · rw [if_neg h]
      by_cases h2 : y < x
      · rw [if_pos h2]
        refine ⟨fun h => absurd h (by decide), fun e => ?_⟩
        rw [e.1] at h2; exact absurd h2 (UInt8.lt_irrefl y)
      · rw [if_neg h2, ih]
        have : x = y := by
          rw [UInt8.lt_iff_toNat_lt] at h h2
          exact UInt8.toNat_inj.1 (by omega)
        exact ⟨fun e => ⟨this, e⟩, fun e => e.2⟩
theorem cb_less_iff : ∀ a b : List UInt8, Op.bytesLess a b = true ↔ Lib.compareBytes a b < 0
  | [], [] => by simp [Op.bytesLess, Lib.compareBytes]
  | [], _ :: _ => by simp [Op.bytesLess, Lib.compareBytes]
  | _ :: _, [] => by simp [Op.bytesLess, Lib.compareBytes]
  | x :: a, y :: b => by
    have ih := cb_less_iff a b
    simp only [Op.bytesLess, Lib.compareBytes]
    by_cases h : x < y
    · rw [if_pos h, decide_eq_true h]; simp
    · rw [if_neg h, decide_eq_false h, Bool.false_or]
      by_cases h2 : y < x
      · rw [if_pos h2]
        have e : (x == y) = false := beq_eq_false_iff_ne.mpr (fun e => by rw [e] at h2; exact absurd h2 (UInt8.lt_irrefl y))
        rw [e]; simp
      · rw [if_neg h2]
        have : x = y := by
          rw [UInt8.lt_iff_toNat_lt] at h h2
          exact UInt8.toNat_inj.1 (by omega)
        subst this
        rw [beq_self_eq_true, Bool.true_and]; exact ih
theorem cb_less (a b : List UInt8) : Op.bytesLess a b = decide (Lib.compareBytes a b < 0) := by
  rw [Bool.eq_iff_iff, cb_less_iff, decide_eq_true_eq]
theorem cb_swap : ∀ a b : List UInt8, Lib.compareBytes b a = - Lib.compareBytes a b
  | [], [] => rfl
  | [], _ :: _ => rfl
  | _ :: _, [] => rfl
  | x :: a, y :: b => by
    have ih := cb_swap a b
    simp only [Lib.compareBytes]
    by_cases h : x < y
    · have h2 : ¬ y < x := by rw [UInt8.lt_iff_toNat_lt] at h ⊢; omega
      rw [if_neg h2, if_pos h, if_pos h]; rfl
    · by_cases h2 : y < x
      · rw [if_pos h2, if_neg h, if_pos h2]
      · rw [if_neg h2, if_neg h, if_neg h, if_neg h2]; exact ih
def cmpI (a b : Int) : Int := if a < b then -1 else if a > b then 1 else 0
def cmpB (s t : ByteArray) : Int := Lib.compareBytes s.data.toList t.data.toList
def cmpV (v w : S44) : Int := if cmpI v.f0 w.f0 = 0 then (if cmpI v.f1 w.f1 = 0 then cmpB v.f2 w.f2 else cmpI v.f1 w.f1) else cmpI v.f0 w.f0
theorem cmpI_zero (a b : Int) : cmpI a b = 0 ↔ a = b := by unfold cmpI; split <;> (try split) <;> omega
theorem cmpI_swap (a b : Int) : cmpI b a = - cmpI a b := by unfold cmpI; split <;> (try split) <;> (try split) <;> (try split) <;> omega
theorem cmpB_zero (s t : ByteArray) : cmpB s t = 0 ↔ s = t := by
  unfold cmpB
  rw [cb_zero]
  exact ⟨fun h => ByteArray.ext (Array.toList_inj.1 h), fun h => by rw [h]⟩
theorem cmpV_zero (v w : S44) : cmpV v w = 0 ↔ v = w := by
  obtain ⟨a, b, c⟩ := v
  obtain ⟨x, y, z⟩ := w
  have h1 := cmpI_zero a x
  have h2 := cmpI_zero b y
  have h3 := cmpB_zero c z
  unfold cmpV
  simp only [S44.mk.injEq]
  by_cases e1 : cmpI a x = 0
  · rw [if_pos e1]
    by_cases e2 : cmpI b y = 0
    · rw [if_pos e2, h3]; exact ⟨fun h => ⟨h1.1 e1, h2.1 e2, h⟩, fun h => h.2.2⟩
    · rw [if_neg e2]; exact ⟨fun h => absurd h e2, fun h => absurd (h2.2 h.2.1) e2⟩
  · rw [if_neg e1]; exact ⟨fun h => absurd h e1, fun h => absurd (h1.2 h.1) e1⟩
theorem cmpV_swap (v w : S44) : cmpV w v = - cmpV v w := by
  unfold cmpV cmpB
  rw [cmpI_swap v.f0 w.f0, cmpI_swap v.f1 w.f1, cb_swap v.f2.data.toList w.f2.data.toList]
  split <;> split <;> (try split) <;> (try split) <;> omega
theorem cmp_Compare_eq (a b : Int) : cmp_Compare_int.f a b = some (cmpI a b) := by
  simp only [cmp_Compare_int.f, cmp_isNaN_int.f, Option.bind_some, bne_self_eq_false, Bool.false_eq_true, if_false, cmpI]
  split
  · rfl
  · split <;> rfl
theorem cmp_Or_ev (x y z : Int) : Ev (fun k => cmp_Or_int.f k [x, y, z]) (if x = 0 then (if y = 0 then z else y) else x) := by
  have l3 : (([x, y, z] : List Int).length : Int) = 3 := rfl
  have r0 : rd [x, y, z] 0 = x := rfl
  have r1 : rd [x, y, z] 1 = y := rfl
  have r2 : rd [x, y, z] 2 = z := rfl
  have w0 : wrap64 (0 + 1) = 1 := by unfold wrap64; omega
  have w1 : wrap64 (1 + 1) = 2 := by unfold wrap64; omega
  have w2 : wrap64 (2 + 1) = 3 := by unfold wrap64; omega
  unfold cmp_Or_int.f
  rw [l3]
  refine evShift ?_
  simp only [cmp_Or_int.l0, l3, r0, w0]
  refine evPos (by decide) (evPos (by decide) (evPos (by decide) (evIf (fun h => ?_) (fun h => evSome (by rw [if_neg h])))))
  rw [if_pos h]
  refine evShift ?_
  simp only [cmp_Or_int.l0, l3, r1, w1]
  refine evPos (by decide) (evPos (by decide) (evPos (by decide) (evIf (fun h => ?_) (fun h => evSome (by rw [if_neg h])))))
  rw [if_pos h]
  refine evShift ?_
  simp only [cmp_Or_int.l0, l3, r2, w2]
  refine evPos (by decide) (evPos (by decide) (evPos (by decide) (evIf (fun h => ?_) (fun h => evSome rfl))))
  refine evShift ?_
  simp only [cmp_Or_int.l0]
  exact evNeg (by decide) (evSome h.symm)
theorem val_Compare_ev (v w : S44) : Ev (fun k => val_Compare.f k v.f0 v.f1 v.f2 w.f0 w.f1 w.f2) (cmpV v w) := by
  unfold val_Compare.f
  simp only [cmp_Compare_eq, strings_Compare.f, Option.bind_some]
  exact Ev.bind (cmp_Or_ev _ _ _) (evSome rfl)
def holdsS (how : Int) (v w : S44) : Bool × Int :=
  if (decide (1 ≤ how ∧ how ≤ 4) && (valS v.f0 v.f1 v.f2 && valS w.f0 w.f1 w.f2)) = true then
    (if (how = 3 ∨ how = 4) ∧ v.f0 ≠ w.f0 then (false, 3) else (if how = 1 then cmpV v w == 0 else if how = 2 then cmpV v w != 0 else if how = 3 then decide (cmpV v w < 0) else decide (cmpV v w ≤ 0), 0))
  else (false, 1)
end Go.Proofs.YtaopajmpifenoaaDoor.P
end
section
namespace Go.Proofs.YtaopajmpifenoaaDoor.P
open Go.RowKit Go.Proofs.YtaopajmpifenoaaDoorW.PrintWords Go.Proofs.YtaopajmpifenoaaDoorW.PrintLast Go.Proofs.YtaopajmpifenoaaDoorW.PrintMore
def vI (a : Int) : S44 := ⟨1, a, ⟨#[]⟩⟩
def vY (s : ByteArray) : S44 := ⟨2, 0, s⟩
def vS (s : ByteArray) : S44 := ⟨3, 0, s⟩
theorem val_beq (v w : S44) : (v.f0 == w.f0 && (v.f1 == w.f1 && (v.f2.toList == w.f2.toList))) = (cmpV v w == 0) := by
  rw [Bool.eq_iff_iff, beq_iff_eq, cmpV_zero, tl_beq]
  cases v; cases w
  simp
theorem cmpB_nil : cmpB ⟨#[]⟩ ⟨#[]⟩ = 0 := (cmpB_zero _ _).2 rfl
theorem cmp_vI (a b : Int) : cmpV (vI a) (vI b) = cmpI a b := by
  show (if cmpI 1 1 = 0 then (if cmpI a b = 0 then cmpB ⟨#[]⟩ ⟨#[]⟩ else cmpI a b) else cmpI 1 1) = _
  rw [if_pos ((cmpI_zero 1 1).2 rfl), cmpB_nil]
  split
  · exact (‹cmpI a b = 0›).symm
  · rfl
def Tr (x y z : Int) : Prop := (x ≤ 0 → y ≤ 0 → z ≤ 0) ∧ (x < 0 → y ≤ 0 → z < 0) ∧ (x ≤ 0 → y < 0 → z < 0) ∧ (x = 0 → y = 0 → z = 0)
def lexI (a b : Int) : Int := if a = 0 then b else a
theorem Tr.lex {x y z a b c : Int} (h : Tr x y z) (k : Tr a b c) : Tr (lexI x a) (lexI y b) (lexI z c) := by
  unfold Tr lexI at *
  obtain ⟨h1, h2, h3, h4⟩ := h
  obtain ⟨k1, k2, k3, k4⟩ := k
  by_cases ex : x = 0
  · by_cases ey : y = 0
    · rw [if_pos ex, if_pos ey, if_pos (h4 ex ey)]; exact ⟨k1, k2, k3, k4⟩
    · rw [if_pos ex, if_neg ey]
      refine ⟨fun _ q => ?_, fun _ q => ?_, fun _ q => ?_, fun _ q => absurd q ey⟩ <;> (have := h3 (by omega) (by omega); rw [if_neg (by omega)]; omega)
  · by_cases ey : y = 0
    · rw [if_neg ex, if_pos ey]
      refine ⟨fun p _ => ?_, fun p _ => ?_, fun p _ => ?_, fun p _ => absurd p ex⟩ <;> (have := h2 (by omega) (by omega); rw [if_neg (by omega)]; omega)
    · rw [if_neg ex, if_neg ey]
      refine ⟨fun p q => ?_, fun p q => ?_, fun p q => ?_, fun p _ => absurd p ex⟩ <;> (have := h2 (by omega) (by omega); rw [if_neg (by omega)]; omega)
theorem cmpI_tr (a b c : Int) : Tr (cmpI a b) (cmpI b c) (cmpI a c) := by
  unfold Tr cmpI
  refine ⟨?_, ?_, ?_, ?_⟩ <;> (intro p q; repeat' split at p) <;> (repeat' split at q) <;> (repeat' split) <;> omega
theorem cb_cons (x y : UInt8) (a b : List UInt8) : Lib.compareBytes (x :: a) (y :: b) = lexI (cmpI (x.toNat : Int) (y.toNat : Int)) (Lib.compareBytes a b) := by
  simp only [Lib.compareBytes, UInt8.lt_iff_toNat_lt]
  by_cases h : x.toNat < y.toNat
  · have e : cmpI (x.toNat : Int) (y.toNat : Int) = -1 := by unfold cmpI; rw [if_pos (by omega)]
    rw [if_pos h, e]; rfl
  · rw [if_neg h]
    by_cases h2 : y.toNat < x.toNat
    · have e : cmpI (x.toNat : Int) (y.toNat : Int) = 1 := by unfold cmpI; rw [if_neg (by omega), if_pos (by omega)]
      rw [if_pos h2, e]; rfl
    · have e : cmpI (x.toNat : Int) (y.toNat : Int) = 0 := by unfold cmpI; rw [if_neg (by omega), if_neg (by omega)]
      rw [if_neg h2, e]; rfl
theorem cb_nn : Lib.compareBytes [] [] = 0 := rfl
theorem cb_nc (y : UInt8) (b : List UInt8) : Lib.compareBytes [] (y :: b) = -1 := rfl
theorem cb_cn (x : UInt8) (a : List UInt8) : Lib.compareBytes (x :: a) [] = 1 := rfl
theorem cb_tr : ∀ a b c : List UInt8, Tr (Lib.compareBytes a b) (Lib.compareBytes b c) (Lib.compareBytes a c)
  | [], [], [] => by unfold Tr; rw [cb_nn]; omega
  | [], [], _ :: _ => by unfold Tr; rw [cb_nn, cb_nc]; omega
  | [], _ :: _, [] => by unfold Tr; rw [cb_nn, cb_nc, cb_cn]; omega
  | [], _ :: _, _ :: _ => by unfold Tr; rw [cb_nc, cb_nc]; omega
  | _ :: _, [], [] => by unfold Tr; rw [cb_nn, cb_cn]; omega
  | _ :: _, [], _ :: _ => by unfold Tr; rw [cb_cn, cb_nc]; omega
  | _ :: _, _ :: _, [] => by unfold Tr; rw [cb_cn, cb_cn]; omega
  | x :: a, y :: b, z :: c => by
    rw [cb_cons, cb_cons, cb_cons]
    exact (cmpI_tr _ _ _).lex (cb_tr a b c)
theorem cmpV_lex (v w : S44) : cmpV v w = lexI (cmpI v.f0 w.f0) (lexI (cmpI v.f1 w.f1) (cmpB v.f2 w.f2)) := rfl
theorem cmpV_tr (u v w : S44) : Tr (cmpV u v) (cmpV v w) (cmpV u w) := by
  rw [cmpV_lex, cmpV_lex, cmpV_lex]
  exact (cmpI_tr _ _ _).lex ((cmpI_tr _ _ _).lex (cb_tr _ _ _))
theorem cmpI_bd (a b : Int) : -1 ≤ cmpI a b ∧ cmpI a b ≤ 1 := by unfold cmpI; split <;> (try split) <;> omega
theorem lexI_bd {a b : Int} (h : -1 ≤ a ∧ a ≤ 1) (k : -1 ≤ b ∧ b ≤ 1) : -1 ≤ lexI a b ∧ lexI a b ≤ 1 := by unfold lexI; split <;> assumption
theorem cb_bd : ∀ a b : List UInt8, -1 ≤ Lib.compareBytes a b ∧ Lib.compareBytes a b ≤ 1
  | [], [] => by rw [cb_nn]; omega
  | [], _ :: _ => by rw [cb_nc]; omega
  | _ :: _, [] => by rw [cb_cn]; omega
  | x :: a, y :: b => by rw [cb_cons]; exact lexI_bd (cmpI_bd _ _) (cb_bd a b)
theorem cmpV_bd (v w : S44) : -1 ≤ cmpV v w ∧ cmpV v w ≤ 1 := by
  rw [cmpV_lex]
  exact lexI_bd (cmpI_bd _ _) (lexI_bd (cmpI_bd _ _) (cb_bd _ _))
end Go.Proofs.YtaopajmpifenoaaDoor.P
end
section
namespace Go.Proofs.YtaopajmpifenoaaDoor.P
open Go.RowKit Go.Proofs.YtaopajmpifenoaaDoorW.PrintWords Go.Proofs.YtaopajmpifenoaaDoorW.PrintLast Go.Proofs.YtaopajmpifenoaaDoorW.PrintMore
def ByteL (l : List Int) : Prop := ∀ c ∈ l, 0 ≤ c ∧ c < 256
theorem byteL_codes (s : ByteArray) : ByteL (bytesOf s) := by
  intro c hc
  unfold bytesOf at hc
  obtain ⟨b, _, rfl⟩ := List.mem_map.1 hc
  have := b.toNat_lt
  omega
theorem codes_of_nums {l : List Int} (h : ByteL l) : bytesOf (strOfNums l) = l := by
  unfold bytesOf
  rw [strOfNums_data, List.map_map]
  induction l with
  | nil => rfl
  | cons c l ih =>
    have hc := h c (List.mem_cons_self ..)
    rw [List.map_cons, ih (fun x hx => h x (List.mem_cons_of_mem _ hx))]
    congr 1
    show (((UInt8.ofNat c.toNat).toNat : Nat) : Int) = c
    rw [UInt8.toNat_ofNat']
    omega
theorem nums_codes (s : ByteArray) : strOfNums (bytesOf s) = s := codes_inj (codes_of_nums (byteL_codes s))
theorem nums_size (l : List Int) : (strOfNums l).size = l.length := strOfNums_size l
theorem codes_append (s t : ByteArray) : bytesOf (s ++ t) = bytesOf s ++ bytesOf t := by
  unfold bytesOf
  rw [← List.map_append, ByteArray.data_append, Array.toList_append]
theorem nums_append (l m : List Int) : strOfNums l ++ strOfNums m = strOfNums (l ++ m) := by
  apply ByteArray.ext
  apply Array.toList_inj.1
  rw [ByteArray.data_append, Array.toList_append, strOfNums_data, strOfNums_data, strOfNums_data, List.map_append]
theorem ext_one (s : ByteArray) (i : Nat) (h : i < s.size) : s.extract i (i + 1) = strOfNums [bt s i] := by
  apply codes_inj
  have hb : ByteL [bt s i] := by
    obtain ⟨x, h1, h2⟩ := codes_split s i h
    intro c hc
    rw [List.mem_singleton.1 hc, h2]
    exact byteL_codes s x (List.mem_of_mem_drop (by rw [h1]; exact List.mem_cons_self ..))
  rw [codes_of_nums hb]
  obtain ⟨x, h1, h2⟩ := codes_split s i h
  unfold bytesOf at h1 ⊢
  rw [ByteArray.data_extract, Array.toList_extract, List.extract_eq_take_drop, List.map_take, List.map_drop, h1, h2, show i + 1 - i = 1 by omega]
  rfl
theorem byteL_append {l m : List Int} (h : ByteL l) (k : ByteL m) : ByteL (l ++ m) := fun c hc => (List.mem_append.1 hc).elim (h c) (k c)
theorem byteL_cons {c : Int} {l : List Int} (hc : 0 ≤ c ∧ c < 256) (h : ByteL l) : ByteL (c :: l) := fun x hx => (List.mem_cons.1 hx).elim (fun e => e ▸ hc) (h x)
def escS : List Int → List Int
  | [] => []
  | c :: l => if c = 34 ∨ c = 92 then 92 :: c :: escS l else c :: escS l
theorem escS_len : ∀ l : List Int, (escS l).length ≤ 2 * l.length
  | [] => by simp [escS]
  | c :: l => by
    have := escS_len l
    unfold escS
    split <;> simp <;> omega
theorem escS_byte : ∀ {l : List Int}, ByteL l → ByteL (escS l)
  | [], _ => by intro c hc; cases hc
  | c :: l, h => by
    have h1 := h c (List.mem_cons_self ..)
    have h2 := escS_byte (l := l) (fun x hx => h x (List.mem_cons_of_mem _ hx))
    unfold escS
    split
    · exact byteL_cons (by decide) (byteL_cons h1 h2)
    · exact byteL_cons h1 h2
def quoteL (l : List Int) : List Int := 34 :: (escS l ++ [34])
theorem quoteL_byte {l : List Int} (h : ByteL l) : ByteL (quoteL l) := byteL_cons (by decide) (byteL_append (escS_byte h) (by intro c hc; rw [List.mem_singleton.1 hc]; decide))
def quoteS (s : ByteArray) : ByteArray := strOfNums (quoteL (bytesOf s))
def textS (kind n : Int) (s : ByteArray) : ByteArray := if kind = 1 then ⟨(Lib.itoa n).toArray⟩ else if kind = 2 then s else quoteS s
theorem quoted_l0 (s : ByteArray) (hs : s.size ≤ 1000000) : ∀ (d i : Nat) (x : List Int), i + d = s.size → x.length ≤ 2 * i + 1 →
    Ev (fun k => val_quoted.l0 k s x s.size i) (strOfNums (x ++ (escS ((bytesOf s).drop i) ++ [34]))) := by
  intro d
  induction d with
  | zero =>
    intro i x hi hx
    refine evShift ?_
    simp only [val_quoted.l0]
    refine evNeg (by omega) (evPos (by omega) (evSome ?_))
    rw [show i = s.size by omega, drop_end]; rfl
  | succ d ih =>
    intro i x hi hx
    have hlt : i < s.size := by omega
    obtain ⟨c, h1, h2⟩ := codes_split s i hlt
    refine evShift ?_
    simp only [val_quoted.l0, Option.bind_some, h2]
    rw [h1, wrap_succ hlt (by omega)]
    unfold escS
    have two : c = 34 ∨ c = 92 → Ev (fun k => if x.length < 140737488355328 then (if (x ++ [92]).length < 140737488355328 then val_quoted.l0 k s (x ++ [92] ++ [c]) s.size ((i + 1 : Nat) : Int) else none) else none) (strOfNums (x ++ ((if c = 34 ∨ c = 92 then 92 :: c :: escS ((bytesOf s).drop (i + 1)) else c :: escS ((bytesOf s).drop (i + 1))) ++ [34]))) := by
      intro hc
      rw [if_pos hc]
      refine evPos (by omega) (evPos (by simp; omega) ?_)
      have := ih (i + 1) (x ++ [92] ++ [c]) (by omega) (by simp; omega)
      rw [show x ++ [92] ++ [c] ++ (escS ((bytesOf s).drop (i + 1)) ++ [34]) = x ++ (92 :: c :: escS ((bytesOf s).drop (i + 1)) ++ [34]) by simp] at this
      exact this
    refine evPos (by omega) (evPos (by omega) (evPos (by omega) (evIf (fun e => two (.inl e)) (fun e1 => evIf (fun e => two (.inr e)) (fun e2 => evPos (by omega) ?_)))))
    rw [if_neg (fun h => h.elim e1 e2)]
    have := ih (i + 1) (x ++ [c]) (by omega) (by simp; omega)
    rw [show x ++ [c] ++ (escS ((bytesOf s).drop (i + 1)) ++ [34]) = x ++ (c :: escS ((bytesOf s).drop (i + 1)) ++ [34]) by simp] at this
    exact this
theorem val_quoted_ev (s : ByteArray) (hs : s.size ≤ 1000000) : Ev (fun k => val_quoted.f k s) (quoteS s) := by
  have := quoted_l0 s hs s.size 0 [34] (by omega) (by simp)
  rw [List.drop_zero] at this
  exact this
theorem valS_str {k n : Int} {s : ByteArray} (h : valS k n s = true) (h1 : ¬ k = 1) (h2 : ¬ k = 2) : k = 3 ∧ n = 0 ∧ (bytesOf s).all plainI = true ∧ s.size ≤ 60 := by
  unfold valS at h
  rw [if_neg h1, if_neg h2] at h
  by_cases h3 : k = 3
  · rw [if_pos h3] at h
    simp only [Bool.and_eq_true, decide_eq_true_eq] at h
    exact ⟨h3, h.1.1, h.1.2, h.2⟩
  · rw [if_neg h3] at h; cases h
theorem valS_sym {n : Int} {s : ByteArray} (h : valS 2 n s = true) : n = 0 ∧ wordS false s = true := by
  unfold valS at h
  rw [if_neg (by decide), if_pos rfl] at h
  simpa using h
theorem valS_int {n : Int} {s : ByteArray} (h : valS 1 n s = true) : InB n ∧ s = ⟨#[]⟩ := by
  unfold valS at h
  rw [if_pos rfl] at h
  simpa using h
theorem val_Text_ev (k n : Int) (s : ByteArray) (hs : s.size ≤ maxLen) : Ev (fun r => val_Text.f r k n s) (if valS k n s then (textS k n s, 0) else (⟨#[]⟩, 1)) := by
  unfold val_Text.f
  refine Ev.bind (val_Check_ev k n s hs) ?_
  cases h : valS k n s with
  | false => exact evNeg (by decide) (evSome rfl)
  | true =>
    refine evPos rfl ?_
    simp only [if_true]
    unfold textS
    refine evIf (fun e => ?_) (fun e => ?_)
    · subst e
      obtain ⟨hb, _⟩ := valS_int h
      rw [InB_iff] at hb
      rw [if_pos rfl]
      simp only [strconv_Itoa.f]
      rw [if_pos ⟨by omega, by omega⟩]
      exact evSome rfl
    · rw [if_neg e]
      refine evIf (fun e2 => evSome (by rw [if_pos e2])) (fun e2 => ?_)
      rw [if_neg e2]
      obtain ⟨_, _, _, h4⟩ := valS_str h e e2
      exact Ev.bind (val_quoted_ev s (by omega)) (evSome rfl)
end Go.Proofs.YtaopajmpifenoaaDoor.P
end
section
namespace Go.Proofs.YtaopajmpifenoaaDoor.P
open Go.RowKit Go.Proofs.YtaopajmpifenoaaDoorW.PrintWords Go.Proofs.YtaopajmpifenoaaDoorW.PrintLast Go.Proofs.YtaopajmpifenoaaDoorW.PrintMore
def bareS : List Int → List Int
  | [] => []
  | [c] => [c]
  | c :: d :: r => if c = 92 then d :: bareS r else c :: bareS (d :: r)
theorem bareS_cons {c : Int} (h : ¬ c = 92) (m : List Int) : bareS (c :: m) = c :: bareS m := by
  cases m with
  | nil => rfl
  | cons d r => simp only [bareS, if_neg h]
theorem bareS_pair (d : Int) (m : List Int) : bareS (92 :: d :: m) = d :: bareS m := by simp only [bareS, if_true]
theorem bare_esc : ∀ l : List Int, bareS (escS l) = l
  | [] => rfl
  | c :: l => by
    unfold escS
    split
    · rw [bareS_pair, bare_esc l]
    · rw [bareS_cons (fun h => ‹¬ (c = 34 ∨ c = 92)› (.inr h)), bare_esc l]
theorem bare_len : ∀ (n : Nat) (l : List Int), l.length ≤ n → (bareS l).length ≤ l.length
  | _, [], _ => by simp [bareS]
  | _, [c], _ => by simp [bareS]
  | 0, c :: d :: r, h => by simp at h
  | n + 1, c :: d :: r, h => by
    unfold bareS
    split
    · have := bare_len n r (by simp at h; omega)
      simp; omega
    · have := bare_len n (d :: r) (by simp at h ⊢; omega)
      simp at this ⊢; omega
theorem take_split (s : ByteArray) (N i : Nat) (hN : N ≤ s.size) (h : i < N) : ((bytesOf s).take N).drop i = bt s i :: ((bytesOf s).take N).drop (i + 1) := by
  have hl : i < ((bytesOf s).take N).length := by rw [List.length_take, len_codes]; omega
  rw [List.drop_eq_getElem_cons hl, List.getElem_take]
  obtain ⟨x, h1, h2⟩ := codes_split s i (by omega)
  rw [h2]
  have := List.drop_eq_getElem_cons (show i < (bytesOf s).length by rw [len_codes]; omega)
  rw [this] at h1
  injection h1 with h1 _
  rw [h1]
theorem take_end (s : ByteArray) (N i : Nat) (h : N ≤ i) : ((bytesOf s).take N).drop i = [] := by
  rw [List.drop_eq_nil_iff, List.length_take]; omega
theorem bare_l0 (s : ByteArray) (h0 : 1 ≤ s.size) (hs : s.size ≤ 1000000) : ∀ (d i : Nat) (x : List Int), s.size - 1 - i ≤ d → x.length ≤ i →
    Ev (fun k => val_bare.l0 k s x i) (strOfNums (x ++ bareS (((bytesOf s).take (s.size - 1)).drop i))) := by
  have hw : wrap64 ((s.size : Int) - 1) = ((s.size - 1 : Nat) : Int) := by unfold wrap64; omega
  intro d
  induction d with
  | zero =>
    intro i x hd hx
    refine evShift ?_
    simp only [val_bare.l0, hw]
    refine evNeg (by omega) (evSome ?_)
    rw [take_end s _ i (by omega)]; simp [bareS]
  | succ d ih =>
    intro i x hd hx
    refine evShift ?_
    simp only [val_bare.l0, hw]
    by_cases hlt : i < s.size - 1
    · rw [take_split s _ i (by omega) hlt]
      have w1 : wrap64 ((i : Int) + 1) = ((i + 1 : Nat) : Int) := wrap_succ (show i < s.size by omega) (by omega)
      have one : ∀ c : Int, (c = 92 → ((bytesOf s).take (s.size - 1)).drop (i + 1) = []) → Ev (fun k => val_bare.l0 k s (x ++ [c]) ((i + 1 : Nat) : Int)) (strOfNums (x ++ bareS (c :: ((bytesOf s).take (s.size - 1)).drop (i + 1)))) := by
        intro c hc
        have := ih (i + 1) (x ++ [c]) (by omega) (by simp; omega)
        by_cases h92 : c = 92
        · rw [hc h92] at this ⊢
          simpa [bareS] using this
        · rw [bareS_cons h92]
          simpa using this
      refine evPos (by omega) (evPos (by omega) (evPos (by omega) (evIf (fun e => ?_) (fun e => evPos (by omega) ?_))))
      · rw [w1]
        by_cases h2 : i + 1 < s.size - 1
        · refine evPos (by omega) (evPos (by omega) (evPos (by omega) (evPos (by omega) ?_)))
          rw [e, take_split s _ (i + 1) (by omega) h2, bareS_pair, wrap_succ (show i + 1 < s.size by omega) (by omega)]
          have := ih (i + 1 + 1) (x ++ [bt s ((i + 1 : Nat) : Int)]) (by omega) (by simp; omega)
          simpa using this
        · refine evNeg (by omega) (evPos (by omega) ?_)
          rw [e]
          exact one 92 (fun _ => take_end s _ _ (by omega))
      · rw [w1]
        exact one _ (fun h => absurd h e)
    · refine evNeg (by omega) (evSome ?_)
      rw [take_end s _ i (by omega)]; simp [bareS]
def innerL (s : ByteArray) : List Int := ((bytesOf s).take (s.size - 1)).drop 1
theorem val_bare_ev (s : ByteArray) (h0 : 1 ≤ s.size) (hs : s.size ≤ 1000000) : Ev (fun k => val_bare.f k s) (strOfNums (bareS (innerL s))) := by
  by_cases h1 : s.size = 1
  · have e : innerL s = [] := take_end s _ _ (by omega)
    rw [e]
    unfold val_bare.f
    refine evShift ?_
    simp only [val_bare.l0]
    exact evNeg (by rw [h1]; unfold wrap64; omega) (evSome rfl)
  · have := bare_l0 s h0 hs s.size 1 [] (by omega) (by simp)
    exact this
def zE : S44 := ⟨0, 0, ⟨#[]⟩⟩
def candS (s : ByteArray) : Option S44 :=
  if bt s 0 = 34 then some ⟨3, 0, strOfNums (bareS (innerL s))⟩
  else if bt s 0 = 45 ∨ digitI (bt s 0) = true then (match Lib.atoiAll s.data.toList with | .ok n => some ⟨1, n, ⟨#[]⟩⟩ | _ => none)
  else some ⟨2, 0, s⟩
def fitsS (v : S44) (s : ByteArray) : Bool := valS v.f0 v.f1 v.f2 && decide (textS v.f0 v.f1 v.f2 = s)
def parseS (s : ByteArray) : S44 × Int :=
  if s = ⟨#[]⟩ then (zE, 7) else match candS s with | some v => if fitsS v s then (v, 0) else (zE, 7) | none => (zE, 7)
def tupP (p : S44 × Int) : Int × Int × ByteArray × Int := (p.1.f0, p.1.f1, p.1.f2, p.2)
theorem parse_fin (v : S44) (s : ByteArray) (hv : v.f2.size ≤ maxLen) (g : Nat → Int × ByteArray → Option (Int × Int × ByteArray × Int)) :
    Ev (fun k => (val_Text.f k v.f0 v.f1 v.f2).bind fun b => (if b.2 = 0 then (if b.1.toList = s.toList then (some (v.f0, v.f1, v.f2, 0)) else (some (0, 0, (⟨#[]⟩ : ByteArray), 7))) else (some (0, 0, (⟨#[]⟩ : ByteArray), 7)))) (tupP (if fitsS v s then (v, 0) else (zE, 7))) := by
  refine Ev.bind (val_Text_ev v.f0 v.f1 v.f2 hv) ?_
  unfold fitsS
  cases h : valS v.f0 v.f1 v.f2 with
  | false => exact evNeg (show ¬ (1 : Int) = 0 by decide) (evSome rfl)
  | true =>
    refine evPos rfl ?_
    simp only [if_true, Bool.true_and]
    by_cases e : textS v.f0 v.f1 v.f2 = s
    · rw [decide_eq_true e]
      exact evPos (tl_inj.2 e) (evSome rfl)
    · rw [decide_eq_false e]
      exact evNeg (fun h => e (tl_inj.1 h)) (evSome rfl)
theorem val_Parse_ev (s : ByteArray) (hs : s.size ≤ 1000000) : Ev (fun k => val_Parse.f k s) (tupP (parseS s)) := by
  have z : (⟨#[]⟩ : ByteArray).size ≤ maxLen := by unfold maxLen; exact Nat.zero_le _
  unfold val_Parse.f parseS
  by_cases h0 : s = ⟨#[]⟩
  · refine evPos (tl_nil.2 h0) (evSome ?_)
    rw [if_pos h0]; rfl
  refine evNeg (fun h => h0 (tl_nil.1 h)) ?_
  rw [if_neg h0]
  have h1 : 1 ≤ s.size := by
    have : ¬ s.size = 0 := fun h => h0 (size_zero.1 h)
    omega
  refine evPos (by omega) ?_
  unfold candS
  refine evIf (fun e => ?_) (fun e => ?_)
  · rw [if_pos e]
    refine Ev.bind (val_bare_ev s h1 hs) ?_
    have hl : (strOfNums (bareS (innerL s))).size ≤ maxLen := by
      have h1 := bare_len _ (innerL s) (Nat.le_refl _)
      have h2 : (innerL s).length ≤ s.size := by unfold innerL; rw [List.length_drop, List.length_take, len_codes]; omega
      rw [nums_size]; unfold maxLen; omega
    exact parse_fin ⟨3, 0, strOfNums (bareS (innerL s))⟩ s hl (fun _ _ => none)
  · rw [if_neg e]
    have jf : Ev (fun k => val_Parse.j0 k s false 2 0 s) (tupP (if fitsS ⟨2, 0, s⟩ s then (⟨2, 0, s⟩, 0) else (zE, 7))) := by
      refine evShift ?_
      simp only [val_Parse.j0, Bool.false_eq_true, if_false]
      exact parse_fin ⟨2, 0, s⟩ s (by unfold maxLen; show s.size ≤ _; omega) (fun _ _ => none)
    have jt : Ev (fun k => val_Parse.j0 k s true 2 0 s) (tupP (match (match Lib.atoiAll s.data.toList with | .ok n => some (⟨1, n, ⟨#[]⟩⟩ : S44) | _ => none) with | some v => if fitsS v s then (v, 0) else (zE, 7) | none => (zE, 7))) := by
      refine evShift ?_
      simp only [val_Parse.j0, if_true, strconv_Atoi.f]
      rw [if_pos (by omega)]
      cases Lib.atoiAll s.data.toList with
      | ok n => exact evBind0 rfl (evPos rfl (parse_fin ⟨1, n, ⟨#[]⟩⟩ s z (fun _ _ => none)))
      | «syntax» => exact evBind0 rfl (evNeg (show ¬ ((some (0 : Int)).isNone = true) by decide) (evSome rfl))
      | range => exact evBind0 rfl (evNeg (show ¬ ((some (0 : Int)).isNone = true) by decide) (evSome rfl))
    by_cases e2 : bt s 0 = 45
    · rw [if_pos (.inl e2)]
      exact evPos e2 jt
    · refine evNeg e2 ?_
      simp only [val_digit_eq, Option.bind_some]
      cases hd : digitI (bt s 0) with
      | true => rw [if_pos (.inr rfl)]; exact jt
      | false => rw [if_neg (fun h => h.elim e2 (by decide))]; exact jf
theorem dig_nat {d : Nat} (h : d < 10) : (UInt8.ofNat (48 + d)).toNat = 48 + d := by rw [UInt8.toNat_ofNat']; omega
theorem dec_parse : ∀ (n u : Nat) (r : List UInt8), u ≤ n → u < 9223372036854775809 → Lib.parseUint10 0 (Lib.decDigits u ++ r) = Lib.parseUint10 u r
  | n, u, r, hn, hu => by
    rw [Lib.decDigits]
    by_cases h : u < 10
    · rw [dif_pos h]
      simp only [List.cons_append, List.nil_append, Lib.parseUint10, dig_nat h]
      rw [if_pos (by omega), if_neg (by omega), if_neg (by omega)]
      congr 1; omega
    · rw [dif_neg h]
      cases n with
      | zero => omega
      | succ n =>
        rw [List.append_assoc, dec_parse n (u / 10) _ (by omega) (by omega)]
        simp only [List.cons_append, List.nil_append, Lib.parseUint10, dig_nat (show u % 10 < 10 by omega)]
        rw [if_pos (by omega), if_neg (by omega), if_neg (by omega)]
        congr 1; omega
theorem dec_digits : ∀ (n u : Nat), u ≤ n → ∀ c ∈ Lib.decDigits u, 48 ≤ c.toNat ∧ c.toNat ≤ 57
  | n, u, hn, c, hc => by
    rw [Lib.decDigits] at hc
    by_cases h : u < 10
    · rw [dif_pos h] at hc
      rw [List.mem_singleton.1 hc, dig_nat h]; omega
    · rw [dif_neg h] at hc
      cases n with
      | zero => omega
      | succ n =>
        rcases List.mem_append.1 hc with hc | hc
        · exact dec_digits n (u / 10) (by omega) c hc
        · rw [List.mem_singleton.1 hc, dig_nat (show u % 10 < 10 by omega)]; omega
theorem dec_cons (u : Nat) : ∃ c r, Lib.decDigits u = c :: r ∧ 48 ≤ c.toNat ∧ c.toNat ≤ 57 := by
  cases h : Lib.decDigits u with
  | nil =>
    have := Lib.decDigits_length u
    rw [h] at this
    have := Lib.nDigits_pos u
    simp at *; omega
  | cons c r => exact ⟨c, r, rfl, dec_digits u u (Nat.le_refl _) c (by rw [h]; exact List.mem_cons_self ..)⟩
theorem dec_mag {u : Nat} (h : u < 9223372036854775809) : Lib.parseMag (Lib.decDigits u) = .ok u := by
  obtain ⟨c, r, e, _⟩ := dec_cons u
  have := dec_parse u u [] (Nat.le_refl _) h
  rw [List.append_nil] at this
  unfold Lib.parseMag
  rw [if_neg (by rw [e]; simp), this]
  rfl
theorem atoi_itoa {n : Int} (h : InB n) : Lib.atoiAll (Lib.itoa n) = .ok n := by
  rw [InB_iff] at h
  unfold Lib.itoa
  by_cases hn : n < 0
  · rw [if_pos hn]
    have hm := dec_mag (show n.natAbs < 9223372036854775809 by omega)
    have : (45 : UInt8).toNat = 45 := rfl
    simp only [Lib.atoiAll, this, or_true, if_true, hm, not_true, false_and, if_false, true_and]
    rw [if_neg (by omega)]
    congr 1; omega
  · rw [if_neg hn]
    have hm := dec_mag (show n.toNat < 9223372036854775809 by omega)
    obtain ⟨c, r, e, h1, h2⟩ := dec_cons n.toNat
    rw [e] at hm ⊢
    simp only [Lib.atoiAll]
    rw [if_neg (show ¬ (c.toNat = 43 ∨ c.toNat = 45) by omega), hm]
    simp only
    rw [if_neg (by omega), if_neg (by omega), if_neg (by omega)]
    congr 1; omega
theorem codes_mk (l : List UInt8) : bytesOf ⟨l.toArray⟩ = l.map fun b => ((b.toNat : Nat) : Int) := rfl
theorem bt_zero {s : ByteArray} {c : Int} {l : List Int} (h : bytesOf s = c :: l) : bt s 0 = c := by rw [bt_codes, h]; rfl
theorem itoa_codes (n : Int) : ∃ c l, bytesOf ⟨(Lib.itoa n).toArray⟩ = c :: l ∧ ((n < 0 ∧ c = 45) ∨ (0 ≤ n ∧ 48 ≤ c ∧ c ≤ 57)) ∧ ∀ d ∈ l, 48 ≤ d ∧ d ≤ 57 := by
  rw [codes_mk]
  unfold Lib.itoa
  by_cases hn : n < 0
  · rw [if_pos hn]
    refine ⟨45, (Lib.decDigits n.natAbs).map fun b => ((b.toNat : Nat) : Int), rfl, .inl ⟨hn, rfl⟩, fun d hd => ?_⟩
    obtain ⟨b, hb, rfl⟩ := List.mem_map.1 hd
    have := dec_digits _ n.natAbs (Nat.le_refl _) b hb
    omega
  · rw [if_neg hn]
    obtain ⟨c, r, e, h1, h2⟩ := dec_cons n.toNat
    rw [e]
    refine ⟨c.toNat, r.map fun b => ((b.toNat : Nat) : Int), rfl, .inr ⟨by omega, by omega, by omega⟩, fun d hd => ?_⟩
    obtain ⟨b, hb, rfl⟩ := List.mem_map.1 hd
    have := dec_digits _ n.toNat (Nat.le_refl _) b (by rw [e]; exact List.mem_cons_of_mem _ hb)
    omega
theorem sym_first {s : ByteArray} (h : wordS false s = true) : 1 ≤ s.size ∧ smallI (bt s 0) = true ∧ (bytesOf s).all innerI = true := by
  unfold wordS at h
  simp only [Bool.and_eq_true, decide_eq_true_eq, Bool.false_eq_true, if_false] at h
  exact ⟨h.1.1.1, h.1.2, h.2⟩
theorem inner_quote (s : ByteArray) : innerL (quoteS s) = escS (bytesOf s) := by
  have hb := quoteL_byte (byteL_codes s)
  unfold innerL quoteS
  rw [codes_of_nums hb, nums_size]
  unfold quoteL
  simp
theorem quote_ne (s : ByteArray) : ¬ quoteS s = ⟨#[]⟩ := by
  intro h
  have := congrArg ByteArray.size h
  unfold quoteS at this
  rw [nums_size] at this
  unfold quoteL at this
  simp at this
  exact absurd this (by show ¬ _ = 0; omega)
theorem cand_text {k n : Int} {s : ByteArray} (h : valS k n s = true) : ¬ textS k n s = ⟨#[]⟩ ∧ candS (textS k n s) = some ⟨k, n, s⟩ := by
  unfold textS
  by_cases h1 : k = 1
  · subst h1
    obtain ⟨hb, rfl⟩ := valS_int h
    rw [if_pos rfl]
    obtain ⟨c, l, e, hc, _⟩ := itoa_codes n
    refine ⟨fun h => (by rw [h] at e; cases e), ?_⟩
    unfold candS
    rw [bt_zero e, if_neg (by omega), if_pos, atoi_itoa hb]
    rcases hc with ⟨_, rfl⟩ | ⟨_, h1, h2⟩
    · exact .inl rfl
    · exact .inr (decide_eq_true ⟨h1, h2⟩)
  · rw [if_neg h1]
    by_cases h2 : k = 2
    · subst h2
      obtain ⟨rfl, hw⟩ := valS_sym h
      obtain ⟨hs, hf, _⟩ := sym_first hw
      rw [if_pos rfl]
      refine ⟨fun h => (by rw [h] at hs; exact absurd hs (by decide)), ?_⟩
      unfold smallI at hf
      rw [decide_eq_true_eq] at hf
      unfold candS
      rw [if_neg (by omega), if_neg]
      rintro (h | h)
      · omega
      · unfold digitI at h; rw [decide_eq_true_eq] at h; omega
    · rw [if_neg h2]
      obtain ⟨rfl, rfl, hp, _⟩ := valS_str h h1 h2
      refine ⟨quote_ne s, ?_⟩
      unfold candS
      have e : bytesOf (quoteS s) = 34 :: (escS (bytesOf s) ++ [34]) := codes_of_nums (quoteL_byte (byteL_codes s))
      rw [bt_zero e, if_pos rfl, inner_quote, bare_esc, nums_codes]
theorem parse_text {v : S44} (h : valS v.f0 v.f1 v.f2 = true) : parseS (textS v.f0 v.f1 v.f2) = (v, 0) := by
  obtain ⟨h1, h2⟩ := cand_text h
  unfold parseS
  rw [if_neg h1, h2]
  show (if fitsS v _ = true then (v, (0 : Int)) else (zE, 7)) = _
  unfold fitsS
  rw [h, decide_eq_true rfl]
  rfl
theorem parse_fits {s : ByteArray} : (∃ v, parseS s = (v, 0) ∧ valS v.f0 v.f1 v.f2 = true ∧ textS v.f0 v.f1 v.f2 = s) ∨ parseS s = (zE, 7) := by
  unfold parseS
  split
  · exact .inr rfl
  · split
    · split
      · rename_i v _ hf
        unfold fitsS at hf
        simp only [Bool.and_eq_true, decide_eq_true_eq] at hf
        exact .inl ⟨v, rfl, hf.1, hf.2⟩
      · exact .inr rfl
    · exact .inr rfl
theorem text_inj {v w : S44} (hv : valS v.f0 v.f1 v.f2 = true) (hw : valS w.f0 w.f1 w.f2 = true) (h : textS v.f0 v.f1 v.f2 = textS w.f0 w.f1 w.f2) : v = w := by
  have h1 := parse_text hv
  rw [h, parse_text hw] at h1
  exact (congrArg Prod.fst h1).symm
theorem valS_size {k n : Int} {s : ByteArray} (h : valS k n s = true) : s.size ≤ 60 := by
  by_cases h1 : k = 1
  · subst h1
    obtain ⟨_, rfl⟩ := valS_int h
    decide
  · by_cases h2 : k = 2
    · subst h2
      obtain ⟨_, hw⟩ := valS_sym h
      unfold wordS at hw
      simp only [Bool.and_eq_true, decide_eq_true_eq] at hw
      omega
    · exact (valS_str h h1 h2).2.2.2
theorem text_size {k n : Int} {s : ByteArray} (h : valS k n s = true) : (textS k n s).size ≤ 200 := by
  have hs := valS_size h
  unfold textS
  split
  · subst k
    obtain ⟨hb, _⟩ := valS_int h
    rw [InB_iff] at hb
    have := Lib.itoa_length_le n (by omega) (by omega)
    show (Lib.itoa n).toArray.size ≤ 200
    rw [List.size_toArray]; omega
  · split
    · omega
    · unfold quoteS quoteL
      rw [nums_size]
      have := escS_len (bytesOf s)
      rw [len_codes] at this
      simp; omega
end Go.Proofs.YtaopajmpifenoaaDoor.P
end
section
namespace Go.Proofs.YtaopajmpifenoaaDoor.P
open Go.RowKit Go.Proofs.YtaopajmpifenoaaDoorW.PrintWords Go.Proofs.YtaopajmpifenoaaDoorW.PrintLast Go.Proofs.YtaopajmpifenoaaDoorW.PrintMore
def cmpS : List Int → List Int → Int
  | [], [] => 0
  | [], _ :: _ => -1
  | _ :: _, [] => 1
  | x :: a, y :: b => if x = y then cmpS a b else if x < y then -1 else 1
theorem ref_order_eq (a b : Int) : constableref01_order.f a b = some (if a < b then -1 else if a > b then 1 else 0) := by
  unfold constableref01_order.f
  split
  · rfl
  · split <;> rfl
theorem ref_Strings_ev (a b : ByteArray) (ha : a.size ≤ maxLen) (hb : b.size ≤ maxLen) : Ev (fun k => constableref01_Strings.f k a b) (cmpS (bytesOf a) (bytesOf b)) := by
  unfold maxLen at ha hb
  have h : ∀ (d i : Nat), i + d = a.size → i ≤ b.size → Ev (fun k => constableref01_Strings.l0 k a b i) (cmpS ((bytesOf a).drop i) ((bytesOf b).drop i)) := by
    intro d
    induction d with
    | zero =>
      intro i hi hib
      refine evShift ?_
      simp only [constableref01_Strings.l0]
      refine evNeg (by omega) (evShift ?_)
      simp only [constableref01_Strings.j1, Bool.false_eq_true, if_false, ref_order_eq, Option.bind_some]
      refine evSome ?_
      rw [List.drop_of_length_le (by rw [len_codes]; omega)]
      by_cases h2 : i < b.size
      · obtain ⟨y, hy, _⟩ := codes_split b i h2
        rw [hy]
        simp only [cmpS]
        rw [if_pos (by omega)]
      · rw [List.drop_of_length_le (by rw [len_codes]; omega)]
        simp only [cmpS]
        rw [if_neg (by omega), if_neg (by omega)]
    | succ d ih =>
      intro i hi hib
      have hlt : i < a.size := by omega
      obtain ⟨x, hx, ex⟩ := codes_split a i hlt
      refine evShift ?_
      simp only [constableref01_Strings.l0]
      refine evPos (by omega) (evShift ?_)
      simp only [constableref01_Strings.j1]
      by_cases h2 : i < b.size
      · obtain ⟨y, hy, ey⟩ := codes_split b i h2
        rw [hx, hy, ex, ey]
        simp only [cmpS]
        refine evPos (by rw [decide_eq_true_eq]; omega) (evPos (by omega) (evPos (by omega) (evPos (by omega) ?_)))
        have r1 := bt_range a i
        have r2 := bt_range b i
        have w1 : wrap64 x = x := by unfold wrap64; omega
        have w2 : wrap64 y = y := by unfold wrap64; omega
        rw [w1, w2]
        refine evIf (fun e => ?_) (fun e => ?_)
        · rw [if_pos e, wrap_succ hlt (by omega)]
          exact ih (i + 1) (by omega) (by omega)
        · rw [if_neg e]
          simp only [ref_order_eq, Option.bind_some]
          refine evSome ?_
          by_cases h3 : x < y
          · rw [if_pos h3, if_pos h3]
          · rw [if_neg h3, if_neg h3, if_pos (by omega)]
      · refine evNeg (by rw [decide_eq_true_eq]; omega) ?_
        simp only [ref_order_eq, Option.bind_some]
        refine evSome ?_
        rw [hx, List.drop_of_length_le (l := bytesOf b) (by rw [len_codes]; omega)]
        simp only [cmpS]
        rw [if_neg (by omega), if_pos (by omega)]
  have h0 := h a.size 0 (by omega) (by omega)
  simpa [constableref01_Strings.f] using h0
theorem less_cmp : ∀ a b : List UInt8, Op.bytesLess a b = decide (cmpS (a.map fun c => ((c.toNat : Nat) : Int)) (b.map fun c => ((c.toNat : Nat) : Int)) < 0)
  | [], [] => rfl
  | [], _ :: _ => rfl
  | _ :: _, [] => rfl
  | x :: a, y :: b => by
    simp only [Op.bytesLess, List.map_cons, cmpS]
    by_cases e : x = y
    · subst e
      simp only [if_true]
      rw [← less_cmp a b]; simp
    · have h1 : ¬ ((x.toNat : Nat) : Int) = ((y.toNat : Nat) : Int) := fun h => e (UInt8.toNat_inj.1 (by omega))
      have h2 : (x == y) = false := beq_eq_false_iff_ne.mpr e
      rw [if_neg h1, h2, Bool.false_and, Bool.or_false]
      by_cases h3 : x < y
      · have h4 : ((x.toNat : Nat) : Int) < ((y.toNat : Nat) : Int) := by have := UInt8.lt_iff_toNat_lt.1 h3; omega
        rw [if_pos h4, decide_eq_true h3]; rfl
      · have h4 : ¬ ((x.toNat : Nat) : Int) < ((y.toNat : Nat) : Int) := fun h => h3 (UInt8.lt_iff_toNat_lt.2 (by omega))
        rw [if_neg h4, decide_eq_false h3]; rfl
theorem less_codes (s t : ByteArray) : Op.bytesLess s.toList t.toList = decide (cmpS (bytesOf s) (bytesOf t) < 0) := by
  rw [tl_data, tl_data]; exact less_cmp _ _
end Go.Proofs.YtaopajmpifenoaaDoor.P
end
section
namespace Go.Proofs.YtaopajmpifenoaaDoor.P
open Go.RowKit Go.Proofs.YtaopajmpifenoaaDoorW.PrintWords Go.Proofs.YtaopajmpifenoaaDoorW.PrintLast Go.Proofs.YtaopajmpifenoaaDoorW.PrintMore
theorem cmpS_cb : ∀ a b : List UInt8, cmpS (a.map fun c => ((c.toNat : Nat) : Int)) (b.map fun c => ((c.toNat : Nat) : Int)) = Lib.compareBytes a b
  | [], [] => rfl
  | [], _ :: _ => rfl
  | _ :: _, [] => rfl
  | x :: a, y :: b => by
    rw [cb_cons, ← cmpS_cb a b]
    simp only [List.map_cons, cmpS, lexI]
    by_cases e : ((x.toNat : Nat) : Int) = ((y.toNat : Nat) : Int)
    · rw [if_pos e, if_pos ((cmpI_zero _ _).2 e)]
    · rw [if_neg e, if_neg (fun h => e ((cmpI_zero _ _).1 h))]
      unfold cmpI
      split
      · rfl
      · rw [if_pos (by omega)]
theorem ref_order_cmp (a b : Int) : constableref01_order.f a b = some (cmpI a b) := ref_order_eq a b
theorem ref_Values_ev (v w : S44) (hv : v.f2.size ≤ maxLen) (hw : w.f2.size ≤ maxLen) : Ev (fun k => constableref01_Values.f k v.f0 v.f1 v.f2 w.f0 w.f1 w.f2) (cmpV v w) := by
  unfold constableref01_Values.f cmpV
  simp only [ref_order_cmp, Option.bind_some]
  refine evIf (fun h1 => ?_) (fun h1 => evSome (by rw [if_neg h1]))
  rw [if_pos h1]
  refine evIf (fun h2 => ?_) (fun h2 => evSome (by rw [if_neg h2]))
  rw [if_pos h2]
  have := ref_Strings_ev v.f2 w.f2 hv hw
  have e : cmpS (bytesOf v.f2) (bytesOf w.f2) = cmpB v.f2 w.f2 := cmpS_cb _ _
  rw [e] at this
  exact Ev.bind this (evSome rfl)
def decC (u : Nat) : List Int := (Lib.decDigits u).map fun b => ((b.toNat : Nat) : Int)
theorem decC_small {u : Nat} (h : u < 10) : decC u = [48 + (u : Int)] := by
  unfold decC
  rw [Lib.decDigits, dif_pos h]
  simp only [List.map_cons, List.map_nil, dig_nat h]
  congr 1
theorem decC_big {u : Nat} (h : ¬ u < 10) : decC u = decC (u / 10) ++ [48 + ((u % 10 : Nat) : Int)] := by
  unfold decC
  rw [Lib.decDigits, dif_neg h]
  simp only [List.map_append, List.map_cons, List.map_nil, dig_nat (show u % 10 < 10 by omega)]
  congr 1
theorem nums_dec (u : Nat) : strOfNums (decC u) = ⟨(Lib.decDigits u).toArray⟩ := by
  apply codes_inj
  rw [codes_of_nums (by
    intro c hc
    unfold decC at hc
    obtain ⟨b, _, rfl⟩ := List.mem_map.1 hc
    have := b.toNat_lt
    omega)]
  rfl
theorem dig_exit (X : List Int) (h : X ≠ []) : Ev (fun k => constableref01_Digits.l0 k 0 (strOfNums X)) (strOfNums X) := by
  refine evShift ?_
  simp only [constableref01_Digits.l0, nums_size]
  have : X.length ≠ 0 := fun e => h (List.length_eq_zero_iff.1 e)
  exact evNeg (by decide) (evNeg (by omega) (evSome rfl))
theorem dig_step (u : Nat) (hu : u ≤ 4611686018427387904) : (wrap64 (48 + (Int.tmod (u : Int) 10))) % 256 = 48 + ((u % 10 : Nat) : Int) ∧ wrap64 (Int.tdiv (u : Int) 10) = ((u / 10 : Nat) : Int) := by
  rw [Int.tmod_eq_emod_of_nonneg (by omega), Int.tdiv_eq_ediv_of_nonneg (by omega)]
  unfold wrap64
  omega
theorem dig_l0 : ∀ (m u : Nat) (X : List Int), u < 10 ^ m → u ≤ 4611686018427387904 → X.length + m ≤ 1000 → 0 < u → Ev (fun k => constableref01_Digits.l0 k u (strOfNums X)) (strOfNums (decC u ++ X)) := by
  intro m
  induction m with
  | zero => intro u X h _ _ h0; simp at h; omega
  | succ m ih =>
    intro u X h hu hX h0
    obtain ⟨e1, e2⟩ := dig_step u hu
    refine evShift ?_
    simp only [constableref01_Digits.l0, e1, e2, Option.bind_some, nums_size, nums_append]
    refine evPos (by omega) (evPos (by simp; omega) ?_)
    by_cases hs : u < 10
    · rw [decC_small hs, show u / 10 = 0 by omega, show u % 10 = u by omega]
      exact dig_exit _ (by simp)
    · rw [decC_big hs]
      have := ih (u / 10) ([48 + ((u % 10 : Nat) : Int)] ++ X) (by rw [Nat.pow_succ] at h; omega) (by omega) (by simp; omega) (by omega)
      rw [← List.append_assoc] at this
      exact this
theorem ref_Digits_nat (u : Nat) (hu : u ≤ 4611686018427387904) : Ev (fun k => constableref01_Digits.l0 k u (⟨#[]⟩ : ByteArray)) ⟨(Lib.decDigits u).toArray⟩ := by
  rw [← nums_dec, show (⟨#[]⟩ : ByteArray) = strOfNums [] from rfl]
  by_cases h0 : u = 0
  · subst h0
    refine evShift ?_
    obtain ⟨e1, e2⟩ := dig_step 0 (by omega)
    simp only [Int.natCast_zero] at e1 e2
    simp only [constableref01_Digits.l0, Int.natCast_zero, e1, e2, Option.bind_some, nums_size, nums_append]
    rw [decC_small (show 0 < 10 by decide)]
    exact evNeg (by decide) (evPos rfl (evPos (by decide) (by simpa using dig_exit [48] (by simp))))
  · have := dig_l0 19 u [] (by omega) hu (by decide) (by omega)
    rw [List.append_nil] at this
    exact this
theorem ref_Digits_ev {n : Int} (h : InB n) : Ev (fun k => constableref01_Digits.f k n) ⟨(Lib.itoa n).toArray⟩ := by
  rw [InB_iff] at h
  have pos : ∀ m : Int, 0 ≤ m → m ≤ 4611686018427387904 → Ev (fun k => constableref01_Digits.f k m) ⟨(Lib.decDigits m.toNat).toArray⟩ := by
    intro m h0 h1
    refine evShift ?_
    simp only [constableref01_Digits.f]
    refine evNeg (by omega) ?_
    have := ref_Digits_nat m.toNat (by omega)
    rw [show ((m.toNat : Nat) : Int) = m by omega] at this
    exact this
  unfold Lib.itoa
  by_cases hn : n < 0
  · rw [if_pos hn]
    refine evShift ?_
    simp only [constableref01_Digits.f]
    have w : wrap64 (-n) = -n := by unfold wrap64; omega
    have := pos (-n) (by omega) (by omega)
    rw [show (-n).toNat = n.natAbs by omega] at this
    rw [w]
    refine evPos hn (Ev.bind this ?_)
    have hl := Lib.itoa_length_le n (by omega) (by omega)
    unfold Lib.itoa at hl
    rw [if_pos hn, List.length_cons] at hl
    refine evPos (by show 1 + (Lib.decDigits n.natAbs).toArray.size ≤ _; rw [List.size_toArray]; omega) (evSome ?_)
    apply ByteArray.ext
    apply Array.toList_inj.1
    rw [ByteArray.data_append, Array.toList_append]
    rfl
  · rw [if_neg hn]
    exact pos n (by omega) (by omega)
theorem ref_text_l0 (a b : Int) (s : ByteArray) (hs : s.size ≤ 1000000) : ∀ (d i : Nat) (x : List Int), i + d = s.size → x.length ≤ 2 * i + 1 →
    Ev (fun k => constableref01_ValueText.l0 k (strOfNums x) i a b s) (strOfNums (x ++ (escS ((bytesOf s).drop i) ++ [34]))) := by
  intro d
  induction d with
  | zero =>
    intro i x hi hx
    refine evShift ?_
    simp only [constableref01_ValueText.l0, nums_size]
    refine evNeg (by omega) (evPos (by omega) (evSome ?_))
    rw [show i = s.size by omega, drop_end, show (⟨#[34]⟩ : ByteArray) = strOfNums [34] from rfl, nums_append]; rfl
  | succ d ih =>
    intro i x hi hx
    have hlt : i < s.size := by omega
    obtain ⟨c, h1, h2⟩ := codes_split s i hlt
    have w1 : wrap64 ((i : Int) + 1) = ((i + 1 : Nat) : Int) := wrap_succ hlt (by omega)
    have ex := ext_one s i hlt
    rw [h2] at ex
    refine evShift ?_
    simp only [constableref01_ValueText.l0, h2, w1, Int.toNat_natCast, ex, show (⟨#[92]⟩ : ByteArray) = strOfNums [92] from rfl, nums_append, nums_size]
    rw [h1]
    have two : c = 34 ∨ c = 92 → Ev (fun k => constableref01_ValueText.l0 k (strOfNums (x ++ [92] ++ [c])) ((i + 1 : Nat) : Int) a b s) (strOfNums (x ++ (escS (c :: (bytesOf s).drop (i + 1)) ++ [34]))) := by
      intro hc
      have := ih (i + 1) (x ++ [92] ++ [c]) (by omega) (by simp; omega)
      rw [show x ++ [92] ++ [c] ++ (escS ((bytesOf s).drop (i + 1)) ++ [34]) = x ++ (escS (c :: (bytesOf s).drop (i + 1)) ++ [34]) by simp [escS, hc]] at this
      exact this
    refine evPos (by omega) (evPos (by omega) (evIf (fun e => evPos (by omega) (evPos (by omega) (evPos (by omega) (evPos (by simp; omega) (two (.inl e)))))) (fun e1 => evIf (fun e => evPos (by omega) (evPos (by omega) (evPos (by omega) (evPos (by simp; omega) (two (.inr e)))))) (fun e2 => evPos (by omega) (evPos (by omega) (evPos (by simp; omega) ?_))))))
    have hn : ¬ (c = 34 ∨ c = 92) := fun h => h.elim e1 e2
    have := ih (i + 1) (x ++ [c]) (by omega) (by simp; omega)
    rw [show x ++ [c] ++ (escS ((bytesOf s).drop (i + 1)) ++ [34]) = x ++ (escS (c :: (bytesOf s).drop (i + 1)) ++ [34]) by simp [escS, hn]] at this
    exact this
theorem ref_ValueText_ev {k n : Int} {s : ByteArray} (h : valS k n s = true) : Ev (fun r => constableref01_ValueText.f r k n s) (textS k n s) := by
  unfold constableref01_ValueText.f textS
  refine evIf (fun e => ?_) (fun e => ?_)
  · subst e
    rw [if_pos rfl]
    exact Ev.bind (ref_Digits_ev (valS_int h).1) (evSome rfl)
  · rw [if_neg e]
    refine evIf (fun e2 => evSome (by rw [if_pos e2])) (fun e2 => ?_)
    rw [if_neg e2]
    have := ref_text_l0 k n s (Nat.le_trans (valS_size h) (by decide)) s.size 0 [34] (by omega) (by simp)
    rw [List.drop_zero] at this
    exact this
def numL : Int → Bool → List Int → Option Int
  | n, over, [] => if over then none else some n
  | n, over, c :: r => if digitI c then (if over then numL n true r else if n > (4611686018427387904 - (c - 48)) / 10 then numL n true r else numL (10 * n + (c - 48)) false r) else none
def numOut (below : Bool) : Option Int → Int × Bool
  | some m => (if below then wrap64 (-m) else m, true)
  | none => (0, false)
def numR (s : ByteArray) : Int × Bool :=
  if s.size = 0 then (0, false)
  else if bt s 0 = 45 then (if s.size = 1 then (0, false) else numOut true (numL 0 false ((bytesOf s).drop 1)))
  else numOut false (numL 0 false (bytesOf s))
theorem num_l0 (s : ByteArray) (below : Bool) (hs : s.size ≤ 1000000) : ∀ (d i : Nat) (n : Int) (over : Bool), i + d = s.size → 0 ≤ n → n ≤ 4611686018427387904 →
    Ev (fun k => constableref01_Number.l0 k s below n over i) (numOut below (numL n over ((bytesOf s).drop i))) := by
  intro d
  induction d with
  | zero =>
    intro i n over hi h0 h1
    refine evShift ?_
    simp only [constableref01_Number.l0]
    refine evNeg (by omega) ?_
    rw [show i = s.size by omega, drop_end]
    cases over with
    | true => exact evPos rfl (evSome rfl)
    | false =>
      refine evNeg (by decide) ?_
      cases below with
      | true => exact evPos rfl (evSome rfl)
      | false => exact evNeg (by decide) (evSome rfl)
  | succ d ih =>
    intro i n over hi h0 h1
    have hlt : i < s.size := by omega
    obtain ⟨c, e1, e2⟩ := codes_split s i hlt
    have w1 : wrap64 ((i : Int) + 1) = ((i + 1 : Nat) : Int) := wrap_succ hlt (by omega)
    refine evShift ?_
    simp only [constableref01_Number.l0, ref_Digit_eq, Option.bind_some, e2, w1]
    rw [e1]
    refine evPos (by omega) (evPos (by omega) ?_)
    unfold numL
    cases hd : digitI c with
    | false => exact evNeg (by decide) (evSome rfl)
    | true =>
      refine evPos rfl ?_
      have hc : 48 ≤ c ∧ c ≤ 57 := by unfold digitI at hd; simpa using hd
      have m1 : (c - 48) % 256 = c - 48 := by omega
      rw [m1]
      cases over with
      | true => exact evPos rfl (ih (i + 1) n true (by omega) h0 h1)
      | false =>
        simp only [if_true, Bool.false_eq_true, if_false]
        refine evIf (fun h => ?_) (fun h => ?_)
        · rw [if_pos h, decide_eq_true h]
          exact ih (i + 1) n true (by omega) h0 h1
        · rw [if_neg h, decide_eq_false h]
          have w2 : wrap64 (wrap64 (10 * n) + (c - 48)) = 10 * n + (c - 48) := by unfold wrap64; omega
          rw [w2]
          exact ih (i + 1) _ false (by omega) (by omega) (by omega)
theorem ext_tail (s : ByteArray) : bytesOf (s.extract 1 s.size) = (bytesOf s).drop 1 := by
  unfold bytesOf
  rw [ByteArray.data_extract, Array.toList_extract, List.extract_eq_take_drop, List.map_take, List.map_drop]
  apply List.take_of_length_le
  rw [List.length_drop, List.length_map, data_length]
  omega
theorem ref_Number_ev (s : ByteArray) (hs : s.size ≤ 1000000) : Ev (fun k => constableref01_Number.f k s) (numR s) := by
  unfold constableref01_Number.f numR
  have jf : Ev (fun k => constableref01_Number.j0 k s false) (if s.size = 0 then (0, false) else numOut false (numL 0 false (bytesOf s))) := by
    refine evShift ?_
    simp only [constableref01_Number.j0, Bool.false_eq_true, if_false]
    refine evShift ?_
    simp only [constableref01_Number.j1]
    refine evIf (fun h => evSome (by rw [if_pos (by omega)])) (fun h => ?_)
    rw [if_neg (by omega)]
    exact num_l0 s false hs s.size 0 0 false (by omega) (by decide) (by decide)
  by_cases h0 : s.size = 0
  · rw [if_pos h0] at jf ⊢
    exact evNeg (by omega) jf
  · rw [if_neg h0] at jf ⊢
    refine evPos (by omega) (evPos (by omega) ?_)
    by_cases h1 : bt s 0 = 45
    · have hsz : (s.extract 1 s.size).size = s.size - 1 := by
        have := congrArg List.length (ext_tail s)
        rw [len_codes, List.length_drop, len_codes] at this
        exact this
      rw [if_pos h1, h1]
      show Ev (fun k => constableref01_Number.j0 k s true) _
      refine evShift ?_
      simp only [constableref01_Number.j0, if_true]
      refine evPos (by omega) (evShift ?_)
      simp only [constableref01_Number.j1, hsz]
      refine evIf (fun h => evSome (by rw [if_pos (by omega)])) (fun h => ?_)
      rw [if_neg (by omega)]
      have := num_l0 (s.extract 1 s.size) true (by omega) (s.size - 1) 0 0 false (by omega) (by decide) (by decide)
      rw [List.drop_zero, ext_tail] at this
      exact this
    · rw [if_neg h1, beq_eq_false_iff_ne.2 h1]
      exact jf
theorem num_dec : ∀ (n u : Nat) (r : List Int), u ≤ n → u ≤ 4611686018427387904 → numL 0 false (decC u ++ r) = numL u false r
  | n, u, r, hn, hu => by
    by_cases h : u < 10
    · rw [decC_small h]
      simp only [List.cons_append, List.nil_append, numL]
      rw [if_pos (show digitI (48 + (u : Int)) = true from decide_eq_true (by omega)), if_neg (by decide), if_neg (by omega)]
      congr 1; omega
    · cases n with
      | zero => omega
      | succ n =>
        rw [decC_big h, List.append_assoc, num_dec n (u / 10) _ (by omega) (by omega)]
        simp only [List.cons_append, List.nil_append, numL]
        rw [if_pos (show digitI (48 + ((u % 10 : Nat) : Int)) = true from decide_eq_true (by omega)), if_neg (by decide), if_neg (by omega)]
        congr 1; omega
theorem num_itoa {n : Int} (h : InB n) : numR ⟨(Lib.itoa n).toArray⟩ = (n, true) := by
  have hb := h
  rw [InB_iff] at h
  obtain ⟨c, l, e, hc, _⟩ := itoa_codes n
  have hz : ¬ (⟨(Lib.itoa n).toArray⟩ : ByteArray).size = 0 := by
    intro hz
    have := len_codes ⟨(Lib.itoa n).toArray⟩
    rw [e, hz] at this
    simp at this
  unfold numR
  rw [if_neg hz, bt_zero e]
  by_cases hn : n < 0
  · have hc45 : c = 45 := by omega
    have hcodes : bytesOf ⟨(Lib.itoa n).toArray⟩ = 45 :: decC n.natAbs := by rw [codes_mk]; unfold Lib.itoa decC; rw [if_pos hn]; rfl
    have hne : ¬ (⟨(Lib.itoa n).toArray⟩ : ByteArray).size = 1 := by
      intro h1
      have := len_codes ⟨(Lib.itoa n).toArray⟩
      rw [hcodes, h1] at this
      obtain ⟨d, r, e2, _⟩ := dec_cons n.natAbs
      unfold decC at this
      rw [e2] at this
      simp at this
    rw [if_pos hc45, if_neg hne, hcodes]
    show numOut true (numL 0 false (decC n.natAbs)) = _
    have := num_dec n.natAbs n.natAbs [] (Nat.le_refl _) (by omega)
    rw [List.append_nil] at this
    rw [this]
    show ((if true = true then wrap64 (-(n.natAbs : Int)) else _), true) = _
    rw [if_pos rfl]
    congr 1
    unfold wrap64; omega
  · have hcodes : bytesOf ⟨(Lib.itoa n).toArray⟩ = decC n.toNat := by rw [codes_mk]; unfold Lib.itoa decC; rw [if_neg hn]
    rw [if_neg (by omega), hcodes]
    have := num_dec n.toNat n.toNat [] (Nat.le_refl _) (by omega)
    rw [List.append_nil] at this
    rw [this]
    show ((if false = true then _ else (n.toNat : Int)), true) = _
    rw [if_neg (by decide)]
    congr 1; omega
theorem num_no {s : ByteArray} {c : Int} {l : List Int} (e : bytesOf s = c :: l) (h1 : ¬ c = 45) (h2 : digitI c = false) : numR s = (0, false) := by
  unfold numR
  split
  · rfl
  · rw [bt_zero e, if_neg h1, e]
    unfold numL
    rw [h2]
    rfl
def quoL : List Int → List Int → List Int × Bool
  | _, [] => ([], false)
  | out, [c] => if c = 34 then (out, decide (out.length ≤ 60)) else ([], false)
  | out, c :: d :: r => if c = 34 then (out, false) else if c = 92 then (if d = 34 ∨ d = 92 then quoL (out ++ [d]) r else ([], false)) else if plainI c then quoL (out ++ [c]) (d :: r) else ([], false)
def quoOut (p : List Int × Bool) : ByteArray × Bool := (strOfNums p.1, p.2)
theorem quo_l0 (s : ByteArray) (hs : s.size ≤ 1000000) : ∀ (d i : Nat) (x : List Int), s.size - i ≤ d → i ≤ s.size → x.length ≤ i → Ev (fun k => constableref01_Quoted.l0 k s (strOfNums x) i) (quoOut (quoL x ((bytesOf s).drop i))) := by
  have wm : 1 ≤ s.size → wrap64 ((s.size : Int) - 1) = ((s.size - 1 : Nat) : Int) := fun h => by unfold wrap64; omega
  intro d
  induction d with
  | zero =>
    intro i x hd hi hx
    refine evShift ?_
    simp only [constableref01_Quoted.l0]
    refine evNeg (by omega) (evSome ?_)
    rw [show i = s.size by omega, drop_end]; rfl
  | succ d ih =>
    intro i x hd hi hx
    by_cases hlt : i < s.size
    · obtain ⟨c, h1, h2⟩ := codes_split s i hlt
      have hr := bt_range s i
      rw [h2] at hr
      have w1 : wrap64 ((i : Int) + 1) = ((i + 1 : Nat) : Int) := wrap_succ hlt (by omega)
      have wc : wrap64 c = c := by unfold wrap64; omega
      have ex := ext_one s i hlt
      rw [h2] at ex
      refine evShift ?_
      simp only [constableref01_Quoted.l0, h2, w1, wm (by omega), wc, Int.toNat_natCast, ex, nums_size, nums_append, constableref01_In.f]
      refine evPos (by omega) (evPos (by omega) ?_)
      rw [h1]
      by_cases hl : i + 1 = s.size
      · rw [hl, drop_end]
        unfold quoL
        refine evIf (fun e => ?_) (fun e => ?_)
        · rw [if_pos e]
          exact evPos (by omega) (evSome (by unfold quoOut; congr 1; rw [decide_eq_decide]; omega))
        · rw [if_neg e]
          refine evIf (fun e2 => evPos (by omega) (evSome rfl)) (fun e2 => ?_)
          have := ih (i + 1) (x ++ [c]) (by omega) (by omega) (by simp; omega)
          rw [hl, drop_end] at this
          by_cases hp : c ≥ 32
          · rw [if_pos hp]
            simp only [Option.bind_some]
            by_cases hp2 : c ≤ 126
            · rw [decide_eq_true hp2]
              exact evPos rfl (evPos (by omega) (evPos (by omega) (evPos (by simp; omega) this)))
            · rw [decide_eq_false hp2]
              exact evNeg (by decide) (evSome rfl)
          · rw [if_neg hp]
            simp only [Option.bind_some]
            exact evNeg (by decide) (evSome rfl)
      · have hlt2 : i + 1 < s.size := by omega
        obtain ⟨c2, g1, g2⟩ := codes_split s (i + 1) hlt2
        have w2 : wrap64 (((i + 1 : Nat) : Int) + 1) = ((i + 1 + 1 : Nat) : Int) := wrap_succ hlt2 (by omega)
        have ex2 := ext_one s (i + 1) hlt2
        rw [g2] at ex2
        rw [g1]
        simp only [quoL]
        simp only [g2, w2, Int.toNat_natCast, ex2, nums_append, nums_size]
        clear w1 w2 wc wm
        have k1 : s.size - (i + 1 + 1) ≤ d := by omega
        have k3 : (x ++ [c2]).length ≤ i + 1 + 1 := by rw [List.length_append, List.length_singleton]; omega
        have nxt := ih (i + 1 + 1) (x ++ [c2]) k1 hlt2 k3
        have two : c2 = 34 ∨ c2 = 92 → Ev (fun k => constableref01_Quoted.l0 k s (strOfNums (x ++ [c2])) ((i + 1 + 1 : Nat) : Int)) (quoOut (if c2 = 34 ∨ c2 = 92 then quoL (x ++ [c2]) ((bytesOf s).drop (i + 1 + 1)) else ([], false))) := fun h => (if_pos h).symm ▸ nxt
        refine evIf (fun e => ?_) (fun e => ?_)
        · rw [if_pos e]
          exact evNeg (by omega) (evSome rfl)
        · rw [if_neg e]
          refine evIf (fun e2 => ?_) (fun e2 => ?_)
          · rw [if_pos e2]
            have b1 : x.length + ([c2] : List Int).length ≤ 9223372036854775807 := by rw [List.length_singleton]; omega
            refine evNeg (by omega) (evPos (by omega) (evPos (by omega) ?_))
            by_cases k1 : c2 = 34
            · refine evPos k1 (evPos (by omega) (evPos (by omega) (evPos b1 ?_)))
              exact two (.inl k1)
            · refine evNeg k1 ?_
              by_cases k2 : c2 = 92
              · refine evPos k2 (evPos (by omega) (evPos (by omega) (evPos b1 ?_)))
                exact two (.inr k2)
              · refine evNeg k2 (evSome ?_)
                rw [if_neg (fun h => h.elim k1 k2)]; rfl
          · rw [if_neg e2]
            have := ih (i + 1) (x ++ [c]) (by omega) (by omega) (by simp; omega)
            rw [g1] at this
            by_cases hp : c ≥ 32
            · rw [if_pos hp]
              simp only [Option.bind_some]
              by_cases hp2 : c ≤ 126
              · rw [decide_eq_true hp2, if_pos (show plainI c = true from decide_eq_true ⟨hp, hp2⟩)]
                exact evPos rfl (evPos (by omega) (evPos (by omega) (evPos (by simp; omega) this)))
              · rw [decide_eq_false hp2, if_neg (show ¬ plainI c = true by unfold plainI; rw [decide_eq_true_eq]; omega)]
                exact evNeg (by decide) (evSome rfl)
            · rw [if_neg hp, if_neg (show ¬ plainI c = true by unfold plainI; rw [decide_eq_true_eq]; omega)]
              simp only [Option.bind_some]
              exact evNeg (by decide) (evSome rfl)
    · refine evShift ?_
      simp only [constableref01_Quoted.l0]
      refine evNeg (by omega) (evSome ?_)
      rw [show i = s.size by omega, drop_end]; rfl
def quoR (s : ByteArray) : ByteArray × Bool := if s.size < 2 then (⟨#[]⟩, false) else if bt s 0 = 34 then quoOut (quoL [] ((bytesOf s).drop 1)) else (⟨#[]⟩, false)
theorem ref_Quoted_ev (s : ByteArray) (hs : s.size ≤ 1000000) : Ev (fun k => constableref01_Quoted.f k s) (quoR s) := by
  unfold constableref01_Quoted.f quoR
  have jt : Ev (fun k => constableref01_Quoted.j0 k s true) ((⟨#[]⟩ : ByteArray), false) := by
    refine evShift ?_
    simp only [constableref01_Quoted.j0, if_true]
    exact evSome rfl
  refine evIf (fun h => ?_) (fun h => evPos (by omega) ?_)
  · rw [if_pos (by omega)]; exact jt
  · rw [if_neg (by omega)]
    by_cases e : bt s 0 = 34
    · rw [if_pos e, e]
      show Ev (fun k => constableref01_Quoted.j0 k s false) _
      refine evShift ?_
      simp only [constableref01_Quoted.j0, Bool.false_eq_true, if_false]
      exact quo_l0 s hs s.size 1 [] (by omega) (by omega) (by simp)
    · rw [if_neg e, bne_iff_ne.2 e]; exact jt
theorem quo_esc : ∀ (l out : List Int), l.all plainI = true → quoL out (escS l ++ [34]) = (out ++ l, decide ((out ++ l).length ≤ 60))
  | [], out, _ => by simp [escS, quoL]
  | c :: l, out, h => by
    rw [List.all_cons, Bool.and_eq_true] at h
    have ne : ∃ d r, escS l ++ [34] = d :: r := by
      cases e : escS l with
      | nil => exact ⟨34, [], rfl⟩
      | cons d r => exact ⟨d, r ++ [34], rfl⟩
    obtain ⟨d, r, e⟩ := ne
    unfold escS
    split
    · rename_i hc
      show quoL out (92 :: c :: (escS l ++ [34])) = _
      simp only [quoL]
      rw [if_neg (by decide), if_pos trivial, if_pos hc, quo_esc l (out ++ [c]) h.2]
      simp
    · rename_i hc
      have ih := quo_esc l (out ++ [c]) h.2
      show quoL out (c :: (escS l ++ [34])) = _
      rw [e] at ih ⊢
      simp only [quoL]
      rw [if_neg (fun k => hc (.inl k)), if_neg (fun k => hc (.inr k)), if_pos h.1, ih]
      simp
def candR (s : ByteArray) : S44 := if (numR s).2 = true then ⟨1, (numR s).1, ⟨#[]⟩⟩ else if (quoR s).2 = true then ⟨3, 0, (quoR s).1⟩ else ⟨2, 0, s⟩
def parseR (s : ByteArray) : S44 × Bool := if fitsS (candR s) s then (candR s, true) else (zE, false)
def tupQ (p : S44 × Bool) : Int × Int × ByteArray × Bool := (p.1.f0, p.1.f1, p.1.f2, p.2)
theorem parse_j0 (v : S44) (s : ByteArray) (hv : v.f2.size ≤ maxLen) : Ev (fun k => constableref01_ParseValue.j0 k s v.f0 v.f1 v.f2) (tupQ (if fitsS v s then (v, true) else (zE, false))) := by
  refine evShift ?_
  simp only [constableref01_ParseValue.j0]
  refine Ev.bind (ref_Value_ev v.f0 v.f1 v.f2 hv) ?_
  unfold fitsS
  cases h : valS v.f0 v.f1 v.f2 with
  | false => exact evNeg (by decide) (evSome rfl)
  | true =>
    refine evPos rfl (Ev.bind (ref_ValueText_ev h) ?_)
    rw [Bool.true_and]
    by_cases e : textS v.f0 v.f1 v.f2 = s
    · rw [decide_eq_true e]; exact evPos (tl_inj.2 e) (evSome rfl)
    · rw [decide_eq_false e]; exact evNeg (fun h => e (tl_inj.1 h)) (evSome rfl)
theorem quoL_len : ∀ (n : Nat) (l out : List Int), l.length ≤ n → (quoL out l).1.length ≤ out.length + l.length
  | _, [], out, _ => by simp [quoL]
  | _, [c], out, _ => by
    unfold quoL
    split
    · show out.length ≤ out.length + 1; omega
    · exact Nat.zero_le _
  | 0, c :: d :: r, out, h => by simp at h
  | n + 1, c :: d :: r, out, h => by
    simp only [quoL]
    split
    · show out.length ≤ _; omega
    · split
      · split
        · have := quoL_len n r (out ++ [d]) (by simp at h; omega)
          simp at this ⊢; omega
        · simp
      · split
        · have := quoL_len n (d :: r) (out ++ [c]) (by simp at h ⊢; omega)
          simp at this ⊢; omega
        · simp
theorem ref_Parse_ev (s : ByteArray) (hs : s.size ≤ 1000000) : Ev (fun k => constableref01_ParseValue.f k s) (tupQ (parseR s)) := by
  unfold constableref01_ParseValue.f parseR candR
  refine Ev.bind (ref_Number_ev s hs) (evIf (fun h => ?_) (fun h => Ev.bind (ref_Quoted_ev s hs) (evIf (fun h2 => ?_) (fun h2 => ?_))))
  · rw [if_pos h]
    exact parse_j0 ⟨1, (numR s).1, ⟨#[]⟩⟩ s (by unfold maxLen; exact Nat.zero_le _)
  · rw [if_neg h, if_pos h2]
    refine parse_j0 ⟨3, 0, (quoR s).1⟩ s ?_
    show (quoR s).1.size ≤ maxLen
    unfold quoR
    split
    · exact Nat.zero_le _
    · split
      · show (strOfNums _).size ≤ _
        rw [nums_size]
        have := quoL_len _ ((bytesOf s).drop 1) [] (Nat.le_refl _)
        rw [List.length_drop, len_codes, List.length_nil] at this
        unfold maxLen
        omega
      · exact Nat.zero_le _
  · rw [if_neg h, if_neg h2]
    exact parse_j0 ⟨2, 0, s⟩ s (by show s.size ≤ maxLen; unfold maxLen; omega)
theorem cand_ref {k n : Int} {s : ByteArray} (h : valS k n s = true) : candR (textS k n s) = ⟨k, n, s⟩ := by
  unfold textS
  by_cases h1 : k = 1
  · subst h1
    obtain ⟨hb, rfl⟩ := valS_int h
    rw [if_pos rfl]
    unfold candR
    rw [num_itoa hb, if_pos rfl]
  · rw [if_neg h1]
    by_cases h2 : k = 2
    · subst h2
      obtain ⟨rfl, hw⟩ := valS_sym h
      obtain ⟨hs, hf, _⟩ := sym_first hw
      rw [if_pos rfl]
      obtain ⟨c, e, e2⟩ := codes_split s 0 (by omega)
      rw [List.drop_zero] at e
      have e2' : bt s 0 = c := e2
      rw [e2'] at hf
      unfold smallI at hf
      rw [decide_eq_true_eq] at hf
      have hn := num_no e (by omega) (show digitI c = false from decide_eq_false (by omega))
      have hq : quoR s = (⟨#[]⟩, false) := by
        unfold quoR
        rw [e2', if_neg (show ¬ c = 34 by omega)]
        split <;> rfl
      unfold candR
      rw [hn, hq, if_neg (by decide), if_neg (by decide)]
    · rw [if_neg h2]
      obtain ⟨rfl, rfl, hp, hl⟩ := valS_str h h1 h2
      have e : bytesOf (quoteS s) = 34 :: (escS (bytesOf s) ++ [34]) := codes_of_nums (quoteL_byte (byteL_codes s))
      have hn := num_no e (by decide) (by decide)
      have hsz : ¬ (quoteS s).size < 2 := by
        have := len_codes (quoteS s)
        rw [e] at this
        simp at this
        omega
      have hq : quoR (quoteS s) = (s, true) := by
        unfold quoR
        rw [if_neg hsz, bt_zero e, if_pos rfl, e]
        show quoOut (quoL [] (escS (bytesOf s) ++ [34])) = _
        rw [quo_esc _ _ hp]
        unfold quoOut
        simp only [List.nil_append, nums_codes, len_codes]
        rw [decide_eq_true hl]
      unfold candR
      rw [hn, hq, if_neg (by decide), if_pos rfl]
theorem parse_same (s : ByteArray) : (∃ v, parseS s = (v, 0) ∧ parseR s = (v, true)) ∨ (parseS s = (zE, 7) ∧ parseR s = (zE, false)) := by
  rcases parse_fits (s := s) with ⟨v, e, hv, ht⟩ | e
  · refine .inl ⟨v, e, ?_⟩
    have hc := cand_ref hv
    rw [ht] at hc
    unfold parseR
    rw [hc]
    have : fitsS v s = true := by unfold fitsS; rw [hv, decide_eq_true ht]; rfl
    show (if fitsS v s = true then (v, true) else (zE, false)) = _
    rw [this]; rfl
  · refine .inr ⟨e, ?_⟩
    unfold parseR
    cases hf : fitsS (candR s) s with
    | false => rfl
    | true =>
      exfalso
      unfold fitsS at hf
      simp only [Bool.and_eq_true, decide_eq_true_eq] at hf
      have := parse_text hf.1
      rw [hf.2, e] at this
      have := congrArg Prod.snd this
      exact absurd this (show ¬ (7 : Int) = 0 by decide)
end Go.Proofs.YtaopajmpifenoaaDoor.P
end
section
namespace Go.Proofs.YtaopajmpifenoaaDoor.P
open Go.RowKit Go.Proofs.YtaopajmpifenoaaDoorW.PrintWords Go.Proofs.YtaopajmpifenoaaDoorW.PrintLast Go.Proofs.YtaopajmpifenoaaDoorW.PrintMore
theorem wakes01_ev : Ev (fun k => constablelaw01_wakes.f k) true := Ev.of (constablelaw01_wakes.mono) (k := 60) (by decide +kernel)
theorem wakesEnd {g : Nat → Option Bool} (h : Ev g true) : Ev (fun k => (g k).bind fun t => some t) true := Ev.bind h (evSome rfl)
end Go.Proofs.YtaopajmpifenoaaDoor.P
end
section
namespace Go.Proofs.YtaopajmpifenoaaDoor.P
open Go.RowKit Go.Proofs.YtaopajmpifenoaaDoorW.PrintWords Go.Proofs.YtaopajmpifenoaaDoorW.PrintLast Go.Proofs.YtaopajmpifenoaaDoorW.PrintMore
structure Opens {α : Type} (d : Kd α) (P : Program) (t : TypeId) (ok : α → Prop) : Prop where
  cells : P.cellsOf t = d.sz
  opens : ∀ {H : Type} {enc : TypeId × Value → H} {w : World} {base : Nat} {spare : Nat → Bool} {held : Bool} {fuel : Nat} {cs : List Value} {x : DataW H × List MemPlace},
    DataW.trod enc P w base spare held fuel t cs = some x → ∃ v, d.K w v cs ∧ ok v
theorem Opens.mono {α : Type} {d : Kd α} {P : Program} {t : TypeId} {ok ok' : α → Prop} (h : Opens d P t ok) (hm : ∀ v, ok v → ok' v) : Opens d P t ok' :=
  ⟨h.cells, fun hx => by obtain ⟨v, h1, h2⟩ := h.opens hx; exact ⟨v, h1, hm v h2⟩⟩
theorem Opens.int {k : IntKind} {P : Program} {t : TypeId} (hu : P.underlying t = some (.int k)) (hc : P.cellsOf t = 1) : Opens (Kd.int k) P t (fun n => (Lit.int k n).wf = true) :=
  ⟨hc, fun hx => by obtain ⟨m, rfl, rfl, hw⟩ := DataW.trod_int hu hx; exact ⟨m, rfl, hw⟩⟩
theorem Opens.string {P : Program} {t : TypeId} (hu : P.underlying t = some .string) (hc : P.cellsOf t = 1) : Opens Kd.string P t (fun s => s.size ≤ maxLen) :=
  ⟨hc, fun hx => by obtain ⟨s, rfl, _, hw⟩ := DataW.trod_string hu hx; exact ⟨s, rfl, hw⟩⟩
theorem Opens.bool {P : Program} {t : TypeId} (hu : P.underlying t = some .bool) (hc : P.cellsOf t = 1) : Opens Kd.bool P t (fun _ => True) :=
  ⟨hc, fun hx => by obtain ⟨b, rfl, _⟩ := DataW.trod_bool hu hx; exact ⟨b, rfl, trivial⟩⟩
theorem Opens.iso {α β : Type} {d : Kd α} {P : Program} {t : TypeId} {ok : α → Prop} {f : β → α} (g : α → β) (hg : ∀ a, f (g a) = a) (h : Opens d P t ok) : Opens (Kd.iso d f) P t (fun b => ok (f b)) :=
  ⟨h.cells, fun hx => by
    obtain ⟨v, h1, h2⟩ := h.opens hx
    refine ⟨g v, ?_, ?_⟩
    · show d.K _ (f (g v)) _
      rw [hg]; exact h1
    · show ok (f (g v))
      rw [hg]; exact h2⟩
structure OpensFs {α : Type} (d : Kd α) (P : Program) (fs : List Field) (off : Nat) (ok : α → Prop) : Prop where
  opens : ∀ {H : Type} {enc : TypeId × Value → H} {w : World} {base : Nat} {spare : Nat → Bool} {held : Bool} {fuel : Nat} {cs : List Value},
    off + d.sz = cs.length → (∀ (i : Nat) (f : Field), fs[i]? = some f → ∃ x, DataW.trod enc P w base spare held fuel f.type ((cs.drop f.offset).take (P.cellsOf f.type)) = some x) → ∃ v, d.K w v (cs.drop off) ∧ ok v
theorem OpensFs.one {α : Type} {d : Kd α} {P : Program} {f : Field} {off : Nat} {ok : α → Prop} (ho : f.offset = off) (h : Opens d P f.type ok) : OpensFs d P [f] off ok := by
  refine ⟨?_⟩
  intro H enc w base spare held fuel cs hl hx
  obtain ⟨x, hx⟩ := hx 0 f rfl
  rw [ho, h.cells, List.take_of_length_le (by simp; omega)] at hx
  exact h.opens hx
theorem OpensFs.cons {α β : Type} {d : Kd α} {d' : Kd β} {P : Program} {f : Field} {fs : List Field} {off : Nat} {ok : α → Prop} {ok' : β → Prop} {ok2 : α × β → Prop} (ho : f.offset = off) (h : Opens d P f.type ok) (h' : OpensFs d' P fs (off + d.sz) ok') (hk : ∀ v, ok v.1 → ok' v.2 → ok2 v) :
    OpensFs (Kd.pair d d') P (f :: fs) off ok2 := by
  refine ⟨?_⟩
  intro H enc w base spare held fuel cs hl hx
  obtain ⟨x, hx0⟩ := hx 0 f rfl
  rw [ho, h.cells] at hx0
  obtain ⟨v, hv, ov⟩ := h.opens hx0
  have hl' : off + (d.sz + d'.sz) = cs.length := hl
  obtain ⟨u, hu, ou⟩ := h'.opens (cs := cs) (by omega) (fun i g hg => hx (i + 1) g hg)
  refine ⟨(v, u), ⟨(cs.drop off).take d.sz, cs.drop (off + d.sz), ?_, hv, hu⟩, hk (v, u) ov ou⟩
  rw [← List.drop_drop, List.take_append_drop]
theorem Opens.struct {α : Type} {d : Kd α} {P : Program} {t : TypeId} {fs : Array Field} {ok : α → Prop} (hu : P.underlying t = some (.struct fs)) (hc : P.cellsOf t = d.sz) (h : OpensFs d P fs.toList 0 ok) : Opens d P t ok := by
  refine ⟨hc, ?_⟩
  intro H enc w base spare held fuel cs x hx
  obtain ⟨xs, n, rfl, _, hl, hxl, hf⟩ := DataW.trod_struct hu hx
  have := h.opens (cs := cs) (enc := enc) (w := w) (base := base) (spare := spare) (held := held) (fuel := n) (by omega) (by
    intro i f hi
    have hi' : fs[i]? = some f := by simpa using hi
    have hlt : i < xs.length := by
      rw [hxl]
      exact (Array.getElem?_eq_some_iff.1 hi').1
    exact ⟨xs[i], by rw [hf i f hi', List.getElem?_eq_getElem hlt]⟩)
  simpa using this
theorem list_of {α : Type} {Q : Nat → α → Prop} : ∀ n : Nat, (∀ i, i < n → ∃ v, Q i v) → ∃ l : List α, l.length = n ∧ ∀ i v, l[i]? = some v → Q i v := by
  intro n
  induction n with
  | zero => intro _; exact ⟨[], rfl, fun i v h => by simp at h⟩
  | succ n ih =>
    intro h
    obtain ⟨l, hl, hq⟩ := ih (fun i hi => h i (by omega))
    obtain ⟨v, hv⟩ := h n (by omega)
    refine ⟨l ++ [v], by simp [hl], ?_⟩
    intro i u hu
    by_cases hi : i < l.length
    · rw [List.getElem?_append_left hi] at hu
      exact hq i u hu
    · rw [List.getElem?_append_right (by omega)] at hu
      have h0 : i - l.length = 0 := by
        by_cases h0 : i - l.length = 0
        · exact h0
        · rw [List.getElem?_eq_none (by simp; omega)] at hu; cases hu
      rw [h0] at hu
      simp at hu
      subst hu
      have : i = n := by omega
      subst this
      exact hv
theorem Opens.row {α : Type} {d : Kd α} {P : Program} {t e : TypeId} {ok : α → Prop} (h : Opens d P e ok) (hu : P.underlying t = some (.slice e))
    {H : Type} {enc : TypeId × Value → H} {w : World} {base : Nat} {spare : Nat → Bool} {held : Bool} {fuel : Nat} {A : Option Addr} {len cap : Nat} {x : DataW H × List MemPlace}
    (hx : DataW.trod enc P w base spare held fuel t [.slice A len cap] = some x) : ∃ l, l.length = len ∧ d.C w A len l ∧ len ≤ cap ∧ cap ≤ maxLen ∧ ∀ v ∈ l, ok v := by
  rcases DataW.trod_slice hu hx with ⟨hcs, _⟩ | ⟨a, len', cap', elems, rest, n, rfl, hcs, _, hb, hl, hm, hlen, hel, _⟩
  · simp only [List.cons.injEq, Value.slice.injEq, and_true] at hcs
    obtain ⟨rfl, rfl, rfl⟩ := hcs
    exact ⟨[], rfl, ⟨rfl, by omega, fun h => by omega⟩, Nat.le_refl _, by unfold maxLen; omega, fun v hv => by simp at hv⟩
  · simp only [List.cons.injEq, Value.slice.injEq, and_true] at hcs
    obtain ⟨rfl, rfl, rfl⟩ := hcs
    obtain ⟨l, hll, hq⟩ := list_of (Q := fun i v => ∃ cs, w.cells? base (a.add (i * P.cellsOf e)) (P.cellsOf e) = some cs ∧ d.K w v cs ∧ ok v) len (by
      intro i hi
      have h1 := hel i hi
      rw [List.getElem?_eq_getElem (by omega), Option.bind_eq_some_iff] at h1
      obtain ⟨cs, h2, h3⟩ := h1
      obtain ⟨v, h4, h5⟩ := h.opens h3
      exact ⟨v, cs, h2, h4, h5⟩)
    refine ⟨l, hll, ⟨hll, by unfold maxLen at hm; omega, fun _ => ⟨a, rfl, ?_⟩⟩, hl, hm, ?_⟩
    · intro j p hp
      obtain ⟨cs, h2, h4, _⟩ := hq j p hp
      obtain ⟨_, h6, h7⟩ := World.cells?_some h2
      refine ⟨cs, by rw [h6, h.cells], h4, ?_⟩
      intro i u hi
      have hlt : i < P.cellsOf e := by rw [← h6]; exact (List.getElem?_eq_some_iff.1 hi).1
      have h8 := h7 i hlt
      rw [Addr.add_add, h.cells, hi] at h8
      exact h8
    · intro v hv
      obtain ⟨i, hi⟩ := List.getElem?_of_mem hv
      obtain ⟨_, _, _, h5⟩ := hq i v hi
      exact h5
theorem Opens.slice {α : Type} {d : Kd α} {P : Program} {t e : TypeId} {ok : α → Prop} (h : Opens d P e ok) (hu : P.underlying t = some (.slice e)) (hc : P.cellsOf t = 1) : Opens (Kd.slice e d) P t (fun l => l.length ≤ maxLen ∧ ∀ v ∈ l, ok v) := by
  refine ⟨hc, ?_⟩
  intro H enc w base spare held fuel cs x hx
  have hx0 := hx
  rcases DataW.trod_slice hu hx with ⟨hcs, _⟩ | ⟨a, len', cap', elems, rest, n, rfl, hcs, _⟩ <;> subst hcs
  all_goals
    obtain ⟨l, h1, h2, h3, h4, h5⟩ := h.row hu hx0
    have h6 := Nat.le_trans h3 h4
    rw [← h1] at h2 h3 h6 ⊢
    exact ⟨l, ⟨_, _, rfl, h3, h2⟩, h6, h5⟩
theorem Opens.arg {α : Type} {d : Kd α} {P : Program} {t e : TypeId} {ok : α → Prop} (h : Opens d P e ok) (hu : P.underlying t = some (.slice e)) {B : Nat} (hB : P.bytesOf e = B)
    {H : Type} {enc : TypeId × Value → H} {w : World} {base : Nat} {spare : Nat → Bool} {held : Bool} {a : Option Addr} {len cap : Nat} {x : DataW H} {ps : List MemPlace} {ts : List TypeId} {ds : List (DataW H)} {j : Nat}
    (hsz : (DataW.weightsEach P ts ds).all (· ≤ reachBytes) = true) (ht : ts[j]? = some t) (hd : ds[j]? = some x)
    (hx : DataW.Trod enc P w base spare held t (.slice a len cap) x ps) : ∃ l, l.length = len ∧ d.C w a len l ∧ len ≤ cap ∧ (len ≤ maxLen ∧ len * B ≤ 140737488351232) ∧ ∀ v ∈ l, ok v := by
  obtain ⟨fuel, hf⟩ := hx
  have hf' : DataW.trod enc P w base spare held fuel t [.slice a len cap] = some (x, ps) := hf
  obtain ⟨l, h1, h2, h3, h4, h5⟩ := h.row hu hf'
  refine ⟨l, h1, h2, h3, ⟨Nat.le_trans h3 h4, ?_⟩, h5⟩
  rcases DataW.trod_slice hu hf' with ⟨hcs, _⟩ | ⟨a', len', cap', elems, rest, n, _, hcs, hxx, _, hl, _, hlen, _⟩
  · simp only [List.cons.injEq, Value.slice.injEq, and_true] at hcs
    obtain ⟨_, rfl, _⟩ := hcs
    omega
  · simp only [List.cons.injEq, Value.slice.injEq, and_true] at hcs
    obtain ⟨_, rfl, _⟩ := hcs
    obtain ⟨rfl, _⟩ := Prod.mk.inj hxx
    have z := sized_slice hsz ht hd hu
    rw [hB] at z
    have : len ≤ (elems.map (·.1)).length + (rest.map (·.1)).length := by simp; omega
    exact Nat.le_trans (Nat.mul_le_mul_right _ this) z
theorem Opens.agg {α : Type} {d : Kd α} {P : Program} {t : TypeId} {ok : α → Prop} (h : Opens d P t ok) {fs : Array Field} (hu : P.underlying t = some (.struct fs))
    {H : Type} {enc : TypeId × Value → H} {w : World} {r : Reach} {base b0 : Nat} {spare : Nat → Bool} {held : Bool} {v : Value} {x : DataW H} {ps : List MemPlace}
    (hv : Value.okWide P w r b0 t v) (hx : DataW.Trod enc P w base spare held t v x ps) : ∃ u cs, v = .agg ⟨cs⟩ ∧ d.K w u cs ∧ ok u := by
  obtain ⟨cs, rfl, _⟩ := Go.WideShapes.okWide_struct hu hv
  obtain ⟨fuel, hf⟩ := hx
  obtain ⟨u, h1, h2⟩ := h.opens hf
  exact ⟨u, cs.toList, rfl, h1, h2⟩
end Go.Proofs.YtaopajmpifenoaaDoor.P
end
section
namespace Go.Proofs.YtaopajmpifenoaaDoor.P
open Go.RowKit Go.Proofs.YtaopajmpifenoaaDoorW.PrintWords Go.Proofs.YtaopajmpifenoaaDoorW.PrintLast Go.Proofs.YtaopajmpifenoaaDoorW.PrintMore
theorem o3 : Opens (Kd.int .i64) Tryd.prog 3 (fun x => (Lit.int .i64 x).wf = true) := Opens.int Tryd.underlying3 (by kernel_rfl)
theorem o9 : Opens Kd.string Tryd.prog 9 (fun x => x.size ≤ maxLen) := Opens.string Tryd.underlying9 (by kernel_rfl)
def ok44 (x : S44) : Prop := (Lit.int .i64 x.f0).wf = true ∧ (Lit.int .i64 x.f1).wf = true ∧ x.f2.size ≤ maxLen
theorem o44 : Opens k44 Tryd.prog 44 ok44 := by
  have h1 := Opens.struct (d := (Kd.pair (Kd.int .i64) (Kd.pair (Kd.int .i64) Kd.string))) (ok := fun a => (Lit.int .i64 a.1).wf = true ∧ (Lit.int .i64 a.2.1).wf = true ∧ a.2.2.size ≤ maxLen) Tryd.underlying44 (by kernel_rfl) (OpensFs.cons (ok2 := fun a : (Int) × (Int) × (ByteArray) => (Lit.int .i64 a.1).wf = true ∧ (Lit.int .i64 a.2.1).wf = true ∧ a.2.2.size ≤ maxLen) (ok' := fun a : (Int) × (ByteArray) => (Lit.int .i64 a.1).wf = true ∧ a.2.size ≤ maxLen) (by rfl) o3 (OpensFs.cons (ok2 := fun a : (Int) × (ByteArray) => (Lit.int .i64 a.1).wf = true ∧ a.2.size ≤ maxLen) (ok' := fun a : (ByteArray) => a.size ≤ maxLen) (by rfl) o3 (OpensFs.one (by rfl) o9) (fun v h1 h2 => ⟨h1, h2⟩)) (fun v h1 h2 => ⟨h1, h2⟩))
  exact Opens.mono (Opens.iso (fun a => ⟨a.1, a.2.1, a.2.2⟩) (fun _ => rfl) h1) (fun _ h => h)
theorem kc44 {w : World} {v : S44} {cs : List Value} (h : k44.K w v cs) : cs = [.int .i64 v.f0, .int .i64 v.f1, .string v.f2] := by
  have h0 : ((Kd.pair (Kd.int .i64) (Kd.pair (Kd.int .i64) Kd.string))).K w (v.f0, v.f1, v.f2) cs := h
  obtain ⟨c0, d0, rfl, g0, h1⟩ := h0
  obtain rfl := g0
  obtain ⟨c1, d1, rfl, g1, h2⟩ := h1
  obtain rfl := g1
  obtain rfl := h2
  exact rfl
theorem o22 : Opens (Kd.slice 44 k44) Tryd.prog 22 (fun x => (x.length ≤ maxLen ∧ ∀ v ∈ x, ok44 v)) := Opens.slice o44 Tryd.underlying22 (by kernel_rfl)
def ok24 (x : S24) : Prop := x.f0.size ≤ maxLen ∧ (x.f1.length ≤ maxLen ∧ ∀ v ∈ x.f1, ok44 v)
theorem o24 : Opens k24 Tryd.prog 24 ok24 := by
  have h1 := Opens.struct (d := (Kd.pair Kd.string (Kd.slice 44 k44))) (ok := fun a => a.1.size ≤ maxLen ∧ (a.2.length ≤ maxLen ∧ ∀ v ∈ a.2, ok44 v)) Tryd.underlying24 (by kernel_rfl) (OpensFs.cons (ok2 := fun a : (ByteArray) × (List (S44)) => a.1.size ≤ maxLen ∧ (a.2.length ≤ maxLen ∧ ∀ v ∈ a.2, ok44 v)) (ok' := fun a : (List (S44)) => (a.length ≤ maxLen ∧ ∀ v ∈ a, ok44 v)) (by rfl) o9 (OpensFs.one (by rfl) o22) (fun v h1 h2 => ⟨h1, h2⟩))
  exact Opens.mono (Opens.iso (fun a => ⟨a.1, a.2⟩) (fun _ => rfl) h1) (fun _ h => h)
theorem kc24 {w : World} {v : S24} {cs : List Value} (h : k24.K w v cs) : ∃ A0 c0, cs = [.string v.f0, .slice A0 v.f1.length c0] ∧ v.f1.length ≤ c0 ∧ Kd.C k44 w A0 v.f1.length v.f1 := by
  have h0 : ((Kd.pair Kd.string (Kd.slice 44 k44))).K w (v.f0, v.f1) cs := h
  obtain ⟨c0, d0, rfl, g0, h1⟩ := h0
  obtain rfl := g0
  obtain ⟨B1, e1, rfl, l1, r1⟩ := h1
  exact ⟨B1, e1, rfl, l1, r1⟩
end Go.Proofs.YtaopajmpifenoaaDoor.P
end
section
namespace Go.Proofs.YtaopajmpifenoaaDoor.Pure
open Go.RowKit Go.Proofs.YtaopajmpifenoaaDoor.P Go.Proofs.YtaopajmpifenoaaDoorW.PrintWords Go.Proofs.YtaopajmpifenoaaDoorW.PrintLast Go.Proofs.YtaopajmpifenoaaDoorW.PrintMore
theorem same_not (v : S44) : (!(v.f0 == v.f0) || (!(v.f1 == v.f1) || (!(v.f2.toList == v.f2.toList)))) = false := by simp
theorem ValExact (a b : S44) (s : ByteArray) (_ho0 : ok44 a) (_ho1 : ok44 b) (_w2 : s.size ≤ 140737488351232) : ∃ k, constablelaw01_ValExact.f k a.f0 a.f1 a.f2 b.f0 b.f1 b.f2 s = some true := by
  refine Ev.rounds (r := true) ?_
  have hwk := wakesEnd wakes01_ev
  unfold constablelaw01_ValExact.f
  have hj : Ev (fun k => constablelaw01_ValExact.j0 k s true a.f0 a.f1 a.f2 b.f0 b.f1 b.f2) true := by
    refine evShift ?_
    simp only [constablelaw01_ValExact.j0, if_true]
    exact evSome rfl
  refine evIf (fun _ => hj) (fun h1 => evIf (fun _ => hj) (fun h2 => ?_))
  by_cases h3 : (s.size : Int) > 200
  · rw [decide_eq_true h3]; exact hj
  rw [decide_eq_false h3]
  have sa : a.f2.size ≤ maxLen := by unfold maxLen; omega
  have sb : b.f2.size ≤ maxLen := by unfold maxLen; omega
  have j1 : Ev (fun k => constablelaw01_ValExact.j1 k (if valS a.f0 a.f1 a.f2 then (textS a.f0 a.f1 a.f2, (0 : Int)) else (⟨#[]⟩, 1)).1 (if valS a.f0 a.f1 a.f2 then (textS a.f0 a.f1 a.f2, (0 : Int)) else (⟨#[]⟩, 1)).2 false a.f0 a.f1 a.f2) true := by
    refine evShift ?_
    simp only [constablelaw01_ValExact.j1, Bool.false_eq_true, if_false]
    refine Ev.bind (ref_Value_ev _ _ _ sa) ?_
    have hc := val_Check_ev a.f0 a.f1 a.f2 sa
    cases h : valS a.f0 a.f1 a.f2 with
    | true =>
      rw [h] at hc
      exact evPos rfl (Ev.bind hc (evPos rfl (evPos rfl (Ev.bind (ref_ValueText_ev h) (evPos rfl hwk)))))
    | false =>
      rw [h] at hc
      exact evNeg (by decide) (Ev.bind hc (evPos rfl (evPos rfl (evPos (tl_nil.2 rfl) hwk))))
  refine evShift ?_
  simp only [constablelaw01_ValExact.j0, Bool.false_eq_true, if_false]
  refine Ev.bind (val_Text_ev _ _ _ sa) (Ev.bind (val_Parse_ev s (by omega)) (Ev.bind (ref_Parse_ev s (by omega)) (Ev.bind (val_Compare_ev a b) (Ev.bind (ref_Values_ev a b sa sb) (evPos rfl ?_)))))
  rcases parse_same s with ⟨v, e1, e2⟩ | ⟨e1, e2⟩
  · rw [e1, e2]
    refine evNeg (show ¬ (true != ((0 : Int) == 0)) = true by decide) (evPos rfl ?_)
    show Ev (fun k => constablelaw01_ValExact.j1 k _ _ (!(v.f0 == v.f0) || (!(v.f1 == v.f1) || (!(v.f2.toList == v.f2.toList)))) a.f0 a.f1 a.f2) true
    rw [same_not]
    exact j1
  · rw [e1, e2]
    refine evNeg (show ¬ (false != ((7 : Int) == 0)) = true by decide) (evNeg (show ¬ false = true by decide) (evPos rfl ?_))
    show Ev (fun k => constablelaw01_ValExact.j1 k _ _ (!(zE.f0 == zE.f0) || (!(zE.f1 == zE.f1) || (!(zE.f2.toList == zE.f2.toList)))) a.f0 a.f1 a.f2) true
    rw [same_not]
    exact j1
end Go.Proofs.YtaopajmpifenoaaDoor.Pure
end
section
namespace Go.Proofs.YtaopajmpifenoaaDoor.P
open Go.RowKit Go.Lib
theorem pow_datum : (Rows.laid_internal_strconv_uint64pow10 : DataW Unit) = Lib.tabData .u64 Lib.pow10Tab := by kernel_rfl
theorem laidT_of {r : List (String × DataW Unit)} {W : World} (h : laidMet Tryd.prog (("internal/strconv.uint64pow10", Rows.laid_internal_strconv_uint64pow10) :: r) W) : LaidT W := by
  rw [pow_datum] at h
  exact tabIs_of_head (g := 3) (by kernel_rfl) (by kernel_rfl) Tryd.underlying115 Tryd.underlying103 (by kernel_rfl) (by kernel_rfl) h
theorem star_es : "*" ++ "errors.errorString" = "*errors.errorString" := by decide
theorem row_es (u : TypeId) (h : Tryd.prog.typeName? 3 u = some "*errors.errorString") : u = 120 :=
  typeName_ptr_named (nm := "errors.errorString") (by rw [star_es]; kernel_rfl) (by kernel_rfl) (by decide) u (by rw [star_es]; exact h)
theorem globRan_of {r : List (String × DataW Unit)} {W : World} (h : laidMet Tryd.prog (("strconv.ErrRange", Rows.laid_strconv_ErrRange) :: r) W) : ∃ tp p, W.var? Tryd.prog "strconv.ErrRange" = some #[.iface tp p] := by
  obtain ⟨a, s, hv, _⟩ := laid_sentinel (g := 2) h (by kernel_rfl) (by kernel_rfl) Tryd.underlying72 row_es Tryd.underlying120 Tryd.underlying122 rfl rfl Tryd.underlying9 (by kernel_rfl) (by kernel_rfl)
  exact ⟨_, _, hv⟩
theorem globSyn_of {r : List (String × DataW Unit)} {W : World} (h : laidMet Tryd.prog (("strconv.ErrSyntax", Rows.laid_strconv_ErrSyntax) :: r) W) : ∃ tp p, W.var? Tryd.prog "strconv.ErrSyntax" = some #[.iface tp p] := by
  obtain ⟨a, s, hv, _⟩ := laid_sentinel (g := 1) h (by kernel_rfl) (by kernel_rfl) Tryd.underlying72 row_es Tryd.underlying120 Tryd.underlying122 rfl rfl Tryd.underlying9 (by kernel_rfl) (by kernel_rfl)
  exact ⟨_, _, hv⟩
end Go.Proofs.YtaopajmpifenoaaDoor.P
end
