/- Part 5 of the proof of ExprPut: words, contracts of functions of the program (what a call answers), and what the answers say. -/
import Derived.ChangeArms
import Derived.DataElems
import Derived.DataReads
import Derived.SizedLaws
import Derived.ChangeSlices
import Derived.RowKit
import Derived.WideShapes
import Derived.ChangeShapes
import Derived.KernelRfl
import Derived.Test.YtconpnagoijacaaVWords
import Derived.Test.YtconpnagoijacaaVLast
import Derived.Test.YtconpnagoijacaaVApart
import Derived.Test.YtconpnagoijacaaVArr
import Derived.Test.YtconpnagoijacaaVFoot
import Derived.Test.YtconpnagoijacaaVKept
import Derived.Test.YtconpnagoijacaaVShare
import Derived.Test.YtconpnagoijacaaVZeros
import Derived.Test.YtconpnagoijacaaVN
import Derived.Test.YtconpnagoijacaaVFootNe
import Derived.Test.YtconpnagoijacaaVAt
import Derived.Test.YtconpnagoijacaaVEqStruct
import Derived.Test.YtconpnagoijacaaVTab
import Derived.Test.YtconpnagoijacaaVFour
import Derived.Test.YtconpnagoijacaaVGuard
import Derived.Test.YtconpnagoijacaaVInv
import Derived.Test.YtconpnagoijacaaVInvWords
import Derived.Test.YtconpnagoijacaaVQPut
import Derived.Test.YtconpnagoijacaaVNEv
import Derived.Test.YtconpnagoijacaaVMore
import Derived.Test.YtconpnagoijacaaVRepsOne
import Derived.Test.YtconpnagoijacaaVSized
import Derived.Test.YtconpnagoijacaaCExprPut0
import Derived.Test.YtconpnagoijacaaCExprPut1
import Derived.Test.YtconpnagoijacaaCExprPut2
import Derived.Test.YtconpnagoijacaaCExprPut3
section
namespace Go.Proofs.Ytconpnagoijacaa.P
open Go.RowKit Go.Proofs.YtconpnagoijacaaW.PrintWords Go.Proofs.YtconpnagoijacaaW.PrintLast Go.Proofs.YtconpnagoijacaaW.PrintMore
theorem ref_Lower_eq (c : Int) : constableref01_Lower.f c = some (smallI c) := by
  unfold constableref01_Lower.f smallI
  split
  · congr 1; rw [decide_eq_decide]; omega
  · congr 1; symm; rw [decide_eq_false_iff_not]; omega
theorem ref_Upper_eq (c : Int) : constableref01_Upper.f c = some (largeI c) := by
  unfold constableref01_Upper.f largeI
  split
  · congr 1; rw [decide_eq_decide]; omega
  · congr 1; symm; rw [decide_eq_false_iff_not]; omega
theorem ref_Digit_eq (c : Int) : constableref01_Digit.f c = some (digitI c) := by
  unfold constableref01_Digit.f digitI
  split
  · congr 1; rw [decide_eq_decide]; omega
  · congr 1; symm; rw [decide_eq_false_iff_not]; omega
theorem ref_inner_eq (c : Int) : constableref01_inner.f c = some (innerI c) := by
  unfold constableref01_inner.f innerI
  simp only [ref_Lower_eq, ref_Upper_eq, ref_Digit_eq, Option.bind_some]
  cases smallI c <;> cases largeI c <;> cases digitI c <;> simp
theorem ref_Word_l0 (s : ByteArray) (hs : s.size ≤ maxLen) : ∀ i : Nat, i ≤ s.size → Ev (fun k => constableref01_Word.l0 k s i) (((bytesOf s).drop i).all innerI) := by
  unfold maxLen at hs
  refine back_ind s.size (fun k i => constableref01_Word.l0 k s i) _ ?_ ?_
  · refine evShift ?_
    simp only [constableref01_Word.l0]
    refine evNeg (by omega) (evSome (by rw [drop_end]; rfl))
  · intro i hi ih
    refine evShift ?_
    simp only [constableref01_Word.l0, ref_inner_eq, Option.bind_some]
    refine evPos (by omega) (evPos (by omega) ?_)
    rw [all_drop hi, wrap_succ hi (by omega)]
    by_cases h1 : innerI (bt s i) = true
    · rw [h1]; simpa using ih
    · simp [h1]; exact evSome rfl
theorem not_both (c : Int) : largeI c = true → smallI c = false := by
  unfold largeI smallI
  intro h
  rw [decide_eq_true_eq] at h
  exact decide_eq_false (by omega)
theorem ref_Word_ev (s : ByteArray) (large : Bool) (hs : s.size ≤ maxLen) : Ev (fun k => constableref01_Word.f k s large) (wordS large s) := by
  have hl := ref_Word_l0 s hs 0 (by omega)
  simp only [List.drop_zero, Int.natCast_zero] at hl
  have hj : Ev (fun k => constableref01_Word.j0 k s true) false := by
    refine evShift ?_
    simp only [constableref01_Word.j0, if_true]
    exact evSome rfl
  have hj2 : Ev (fun k => constableref01_Word.j0 k s false) ((bytesOf s).all innerI) := by
    refine evShift ?_
    simp only [constableref01_Word.j0, Bool.false_eq_true, if_false]
    exact hl
  unfold constableref01_Word.f wordS
  simp only [ref_In_eq, ref_Upper_eq, ref_Lower_eq, Option.bind_some]
  by_cases h1 : 1 ≤ s.size ∧ s.size ≤ 24
  · have hd : decide (1 ≤ s.size ∧ s.size ≤ 24) = true := decide_eq_true h1
    have hd' : decide ((1 : Int) ≤ s.size ∧ (s.size : Int) ≤ 24) = true := decide_eq_true (by omega)
    rw [hd, hd']
    refine evPos rfl (evPos (by omega) ?_)
    have hb := not_both (bt s 0)
    cases large <;> cases h2 : largeI (bt s 0) <;> simp [h2] at hb ⊢
    · cases h3 : smallI (bt s 0)
      · simp; exact hj
      · simp; exact hj2
    · rw [hb]; simp; exact hj
    · exact hj
    · exact hj2
  · have hd : decide (1 ≤ s.size ∧ s.size ≤ 24) = false := decide_eq_false h1
    have hd' : decide ((1 : Int) ≤ s.size ∧ (s.size : Int) ≤ 24) = false := decide_eq_false (by omega)
    rw [hd, hd']
    exact evNeg (by decide) hj
theorem ref_Value_l0 (a b : Int) (s : ByteArray) (hs : s.size ≤ maxLen) : ∀ i : Nat, i ≤ s.size → Ev (fun k => constableref01_Value.l0 k i a b s) (((bytesOf s).drop i).all plainI) := by
  unfold maxLen at hs
  refine back_ind s.size (fun k i => constableref01_Value.l0 k i a b s) _ ?_ ?_
  · refine evShift ?_
    simp only [constableref01_Value.l0]
    refine evNeg (by omega) (evSome (by rw [drop_end]; rfl))
  · intro i hi ih
    refine evShift ?_
    simp only [constableref01_Value.l0, ref_In_eq, Option.bind_some]
    refine evPos (by omega) (evPos (by omega) ?_)
    rw [all_drop hi, wrap_succ hi (by omega)]
    have hr := bt_range s i
    have hw : wrap64 (bt s i) = bt s i := by unfold wrap64; omega
    rw [hw]
    have e : decide (32 ≤ bt s i ∧ bt s i ≤ 126) = plainI (bt s i) := rfl
    rw [e]
    by_cases h1 : plainI (bt s i) = true
    · rw [h1]; simpa using ih
    · simp [h1]; exact evSome rfl
theorem ref_Value_ev (kind n : Int) (s : ByteArray) (hs : s.size ≤ maxLen) : Ev (fun k => constableref01_Value.f k kind n s) (valS kind n s) := by
  unfold constableref01_Value.f valS
  by_cases h1 : kind = 1
  · refine evPos h1 ?_
    rw [if_pos h1]
    simp only [ref_In_eq, Option.bind_some]
    have i1 : decide (-4611686018427387904 ≤ n ∧ n ≤ 4611686018427387904) = decide (InB n) := rfl
    rw [i1]
    by_cases h2 : InB n
    · rw [decide_eq_true h2]
      refine evPos rfl (evSome ?_)
      rw [Bool.eq_iff_iff]
      simp [← size_zero]
    · rw [decide_eq_false h2]
      exact evNeg (by decide) (evSome rfl)
  · refine evNeg h1 ?_
    rw [if_neg h1]
    by_cases h2 : kind = 2
    · refine evPos h2 ?_
      rw [if_pos h2]
      by_cases h3 : n = 0
      · refine evPos h3 (Ev.bind (ref_Word_ev s false hs) (evSome ?_))
        rw [decide_eq_true h3]; simp
      · refine evNeg h3 (evSome ?_)
        rw [decide_eq_false h3]; rfl
    · refine evNeg h2 ?_
      rw [if_neg h2]
      by_cases h3 : kind = 3
      · refine evPos h3 ?_
        rw [if_pos h3]
        by_cases h4 : n = 0
        · refine evPos h4 (evShift ?_)
          rw [decide_eq_true h4]
          simp only [constableref01_Value.j0]
          by_cases h5 : (s.size : Int) > 60
          · refine evPos (decide_eq_true h5) (evSome ?_)
            have : decide (s.size ≤ 60) = false := decide_eq_false (by omega)
            rw [this]; simp
          · refine evNeg (by rw [decide_eq_false h5]; decide) ?_
            have : decide (s.size ≤ 60) = true := decide_eq_true (by omega)
            rw [this]
            have := ref_Value_l0 kind n s hs 0 (by omega)
            simpa using this
        · refine evNeg h4 (evShift ?_)
          simp only [constableref01_Value.j0, if_true]
          refine evSome ?_
          rw [decide_eq_false h4]; rfl
      · refine evNeg h3 (evSome ?_)
        rw [if_neg h3]
end Go.Proofs.Ytconpnagoijacaa.P
end
section
namespace Go.Proofs.Ytconpnagoijacaa.P
open Go.RowKit Go.Proofs.YtconpnagoijacaaW.PrintWords Go.Proofs.YtconpnagoijacaaW.PrintLast Go.Proofs.YtconpnagoijacaaW.PrintMore
def cmpS : List Int → List Int → Int
  | [], [] => 0
  | [], _ :: _ => -1
  | _ :: _, [] => 1
  | x :: a, y :: b => if x = y then cmpS a b else if x < y then -1 else 1
theorem ref_order_eq (a b : Int) : constableref01_order.f a b = some (if a < b then -1 else if a > b then 1 else 0) := by
  unfold constableref01_order.f
  split
  · rfl
  · split <;> rfl
theorem ref_Strings_ev (a b : ByteArray) (ha : a.size ≤ maxLen) (hb : b.size ≤ maxLen) : Ev (fun k => constableref01_Strings.f k a b) (cmpS (bytesOf a) (bytesOf b)) := by
  unfold maxLen at ha hb
  have h : ∀ (d i : Nat), i + d = a.size → i ≤ b.size → Ev (fun k => constableref01_Strings.l0 k a b i) (cmpS ((bytesOf a).drop i) ((bytesOf b).drop i)) := by
    intro d
    induction d with
    | zero =>
      intro i hi hib
      refine evShift ?_
      simp only [constableref01_Strings.l0]
      refine evNeg (by omega) (evShift ?_)
      simp only [constableref01_Strings.j1, Bool.false_eq_true, if_false, ref_order_eq, Option.bind_some]
      refine evSome ?_
      rw [List.drop_of_length_le (by rw [len_codes]; omega)]
      by_cases h2 : i < b.size
      · obtain ⟨y, hy, _⟩ := codes_split b i h2
        rw [hy]
        simp only [cmpS]
        rw [if_pos (by omega)]
      · rw [List.drop_of_length_le (by rw [len_codes]; omega)]
        simp only [cmpS]
        rw [if_neg (by omega), if_neg (by omega)]
    | succ d ih =>
      intro i hi hib
      have hlt : i < a.size := by omega
      obtain ⟨x, hx, ex⟩ := codes_split a i hlt
      refine evShift ?_
      simp only [constableref01_Strings.l0]
      refine evPos (by omega) (evShift ?_)
      simp only [constableref01_Strings.j1]
      by_cases h2 : i < b.size
      · obtain ⟨y, hy, ey⟩ := codes_split b i h2
        rw [hx, hy, ex, ey]
        simp only [cmpS]
        refine evPos (by rw [decide_eq_true_eq]; omega) (evPos (by omega) (evPos (by omega) (evPos (by omega) ?_)))
        have r1 := bt_range a i
        have r2 := bt_range b i
        have w1 : wrap64 x = x := by unfold wrap64; omega
        have w2 : wrap64 y = y := by unfold wrap64; omega
        rw [w1, w2]
        refine evIf (fun e => ?_) (fun e => ?_)
        · rw [if_pos e, wrap_succ hlt (by omega)]
          exact ih (i + 1) (by omega) (by omega)
        · rw [if_neg e]
          simp only [ref_order_eq, Option.bind_some]
          refine evSome ?_
          by_cases h3 : x < y
          · rw [if_pos h3, if_pos h3]
          · rw [if_neg h3, if_neg h3, if_pos (by omega)]
      · refine evNeg (by rw [decide_eq_true_eq]; omega) ?_
        simp only [ref_order_eq, Option.bind_some]
        refine evSome ?_
        rw [hx, List.drop_of_length_le (l := bytesOf b) (by rw [len_codes]; omega)]
        simp only [cmpS]
        rw [if_neg (by omega), if_pos (by omega)]
  have h0 := h a.size 0 (by omega) (by omega)
  simpa [constableref01_Strings.f] using h0
theorem less_cmp : ∀ a b : List UInt8, Op.bytesLess a b = decide (cmpS (a.map fun c => ((c.toNat : Nat) : Int)) (b.map fun c => ((c.toNat : Nat) : Int)) < 0)
  | [], [] => rfl
  | [], _ :: _ => rfl
  | _ :: _, [] => rfl
  | x :: a, y :: b => by
    simp only [Op.bytesLess, List.map_cons, cmpS]
    by_cases e : x = y
    · subst e
      simp only [if_true]
      rw [← less_cmp a b]; simp
    · have h1 : ¬ ((x.toNat : Nat) : Int) = ((y.toNat : Nat) : Int) := fun h => e (UInt8.toNat_inj.1 (by omega))
      have h2 : (x == y) = false := beq_eq_false_iff_ne.mpr e
      rw [if_neg h1, h2, Bool.false_and, Bool.or_false]
      by_cases h3 : x < y
      · have h4 : ((x.toNat : Nat) : Int) < ((y.toNat : Nat) : Int) := by have := UInt8.lt_iff_toNat_lt.1 h3; omega
        rw [if_pos h4, decide_eq_true h3]; rfl
      · have h4 : ¬ ((x.toNat : Nat) : Int) < ((y.toNat : Nat) : Int) := fun h => h3 (UInt8.lt_iff_toNat_lt.2 (by omega))
        rw [if_neg h4, decide_eq_false h3]; rfl
theorem less_codes (s t : ByteArray) : Op.bytesLess s.toList t.toList = decide (cmpS (bytesOf s) (bytesOf t) < 0) := by
  rw [tl_data, tl_data]; exact less_cmp _ _
theorem ref_zero (v : S40) : (!(v.f0 == 0) || (!(v.f1 == 0) || (!(v.f2.toList == ([] : List UInt8))))) = !zeroS v := by
  unfold zeroS
  rw [tl_beq_nil]
  by_cases h1 : v.f0 = 0 <;> by_cases h2 : v.f1 = 0 <;> by_cases h3 : v.f2 = ⟨#[]⟩ <;> simp [h1, h2, h3]
theorem size_pos_iff (s : ByteArray) : ((s.size : Int) > 0) ↔ ¬ s = ⟨#[]⟩ := by
  rw [← size_zero]; omega
theorem ref_Expr_l0 (l : List S52) (ho : OpsOk l) (hl : l.length ≤ 1000000) : ∀ (d i : Nat) (n : Int), i + d = l.length → 0 ≤ n → n ≤ i →
    Ev (fun k => constableref01_Expr.l0 k l n i) (decide (deepS n (l.drop i) = some 1)) := by
  intro d
  induction d with
  | zero =>
    intro i n hi h0 h1
    refine evShift ?_
    simp only [constableref01_Expr.l0]
    refine evNeg (by omega) (evSome ?_)
    rw [List.drop_of_length_le (by omega)]
    simp only [deepS, Option.some.injEq]
    rw [Bool.eq_iff_iff]; simp
  | succ d ih =>
    intro i n hi h0 h1
    have hlt : i < l.length := by omega
    obtain ⟨b1, b2⟩ := ho l[i] (List.getElem_mem hlt)
    have i1 := fun (m : Int) h0 h1 => ih (i + 1) m (by omega) h0 h1
    refine evShift ?_
    simp only [constableref01_Expr.l0]
    refine evPos (by omega) (evPos (by omega) ?_)
    simp only [rdO_nth l i hlt]
    rw [drop_at l i hlt, wrap_succ hlt (by omega)]
    have w1 : wrap64 (n + 1) = n + 1 := by unfold wrap64; omega
    rw [w1]
    simp only [deepS, ref_zero]
    refine evIf (fun k1 => ?_) (fun k1 => ?_)
    · have hp : pushS l[i] = true := decide_eq_true (.inl k1)
      have hop : opS l[i] = (wordS true l[i].f1 && zeroS l[i].f2) := by unfold opS; rw [if_pos k1]
      simp only [hp, hop, Bool.true_or, Bool.and_true, if_true]
      refine Ev.bind (ref_Word_ev _ true b1) (evCond (fun hw => ?_) (fun hw => evSome (by simp [hw])))
      refine evCond (fun hz => evSome ?_) (fun hz => ?_)
      · have : zeroS l[i].f2 = false := by simpa using hz
        simp [this]
      · have : zeroS l[i].f2 = true := by simpa using hz
        simp only [hw, this, Bool.and_self, if_true]
        exact i1 (n + 1) (by omega) (by omega)
    · refine evIf (fun k2 => ?_) (fun k2 => ?_)
      · have hp : pushS l[i] = true := decide_eq_true (.inr k2)
        have hop : opS l[i] = (decide (l[i].f1 = ⟨#[]⟩) && valS l[i].f2.f0 l[i].f2.f1 l[i].f2.f2) := by unfold opS; rw [if_neg k1, if_pos k2]
        simp only [hp, hop, Bool.true_or, Bool.and_true, if_true]
        refine evIf (fun hz => evSome ?_) (fun hz => ?_)
        · rw [size_pos_iff] at hz; simp [hz]
        · rw [size_pos_iff, Classical.not_not] at hz
          refine Ev.bind (ref_Value_ev _ _ _ b2) (evCond (fun hv => ?_) (fun hv => evSome (by simp [hv])))
          simp only [hz, hv, decide_true, Bool.and_self, if_true]
          exact i1 (n + 1) (by omega) (by omega)
      · have hp : pushS l[i] = false := decide_eq_false (by omega)
        have hop : opS l[i] = (decide (l[i].f0 = 3 ∨ l[i].f0 = 4 ∨ l[i].f0 = 5) && (decide (l[i].f1 = ⟨#[]⟩) && zeroS l[i].f2)) := by unfold opS; rw [if_neg k1, if_neg k2]
        have j1 : ∀ x : Bool, x = decide (l[i].f0 = 3 ∨ l[i].f0 = 4 ∨ l[i].f0 = 5) → Ev (fun k => constableref01_Expr.j1 k l n i x l[i].f0 l[i].f1 l[i].f2.f0 l[i].f2.f1 l[i].f2.f2)
            (decide ((if opS l[i] && (pushS l[i] || decide (2 ≤ n)) then deepS (if pushS l[i] then n + 1 else n - 1) (l.drop (i + 1)) else none) = some 1)) := by
          intro x hx
          refine evShift ?_
          simp only [constableref01_Expr.j1, ref_zero]
          rw [hop, ← hx, hp]
          simp only [Bool.false_or, Bool.false_eq_true, if_false]
          refine evCond (fun hx2 => ?_) (fun hx2 => evSome (by simp [hx2]))
          rw [hx2, wrap_succ hlt (by omega)]
          refine evIf (fun hz => evSome ?_) (fun hz => ?_)
          · rw [size_pos_iff] at hz; simp [hz]
          · rw [size_pos_iff, Classical.not_not] at hz
            refine evCond (fun hz2 => evSome ?_) (fun hz2 => ?_)
            · have : zeroS l[i].f2 = false := by simpa using hz2
              simp [this]
            · have hz3 : zeroS l[i].f2 = true := by simpa using hz2
              refine evIf (fun h2 => evSome ?_) (fun h2 => ?_)
              · have : ¬ (2 ≤ n) := by omega
                simp [this]
              · have h3 : 2 ≤ n := by omega
                have w2 : wrap64 (n - 1) = n - 1 := by unfold wrap64; omega
                rw [w2]
                simp only [hz, hz3, h3, decide_true, Bool.and_self, if_true]
                exact i1 (n - 1) (by omega) (by omega)
        refine evIf (fun k3 => ?_) (fun k3 => ?_)
        · exact j1 _ (by rw [k3]; rfl)
        · refine evIf (fun k4 => ?_) (fun k4 => ?_)
          · exact j1 _ (by rw [k4]; rfl)
          · exact j1 _ (by rw [Bool.eq_iff_iff]; simp [k3, k4])
theorem ref_Expr_ev (l : List S52) (ho : OpsOk l) : Ev (fun k => constableref01_Expr.f k l) (exprS l) := by
  unfold constableref01_Expr.f exprS
  simp only [ref_In_eq, Option.bind_some]
  refine evIf (fun h => ?_) (fun h => ?_)
  · rw [decide_eq_true_eq] at h
    rw [decide_eq_true (by omega), Bool.true_and]
    have := ref_Expr_l0 l ho (by omega) l.length 0 0 (by omega) (by omega) (by omega)
    simpa using this
  · rw [decide_eq_true_eq] at h
    refine evSome ?_
    rw [decide_eq_false (by omega), Bool.false_and]
theorem ref_Binds_l0 (l : List S62) (ho : BindsOk l) (hl : l.length ≤ 1000000) : ∀ (d : Nat) (i : Nat), i + d = l.length →
    Ev (fun k => constableref01_Binds.l0 k l i) (restS (if h : 0 < i ∧ i - 1 < l.length then some (l[i - 1]'h.2).f0 else none) (l.drop i)) := by
  intro d
  induction d with
  | zero =>
    intro i hi
    refine evShift ?_
    simp only [constableref01_Binds.l0]
    refine evNeg (by omega) (evSome ?_)
    rw [List.drop_of_length_le (by omega)]
    simp [restS]
  | succ d ih =>
    intro i hi
    have hlt : i < l.length := by omega
    obtain ⟨b1, b2⟩ := ho l[i] (List.getElem_mem hlt)
    refine evShift ?_
    simp only [constableref01_Binds.l0]
    refine evPos (by omega) (evPos (by omega) ?_)
    simp only [rdB_nth l i hlt]
    rw [drop_at l i hlt]
    have hn := ih (i + 1) (by omega)
    rw [dif_pos (by omega)] at hn
    simp only [Nat.add_sub_cancel] at hn
    rw [wrap_succ hlt (by omega)]
    have hb0 : bindS l[i] = (wordS true l[i].f0 && valS l[i].f1.f0 l[i].f1.f1 l[i].f1.f2) := rfl
    by_cases h0 : 0 < i
    · rw [dif_pos ⟨h0, by omega⟩]
      simp only [restS, hb0]
      refine Ev.bind (ref_Word_ev _ true b1) (evCond (fun h1 => ?_) (fun h1 => evSome (by simp [h1])))
      refine Ev.bind (ref_Value_ev _ _ _ b2) (evCond (fun h2 => ?_) (fun h2 => evSome (by simp [h2])))
      refine evPos (by omega) ?_
      have e : wrap64 ((i : Int) - 1) = ((i - 1 : Nat) : Int) := by unfold wrap64; omega
      rw [e]
      refine evPos (by omega) (evPos (by omega) ?_)
      rw [rdB_nth l (i - 1) (by omega)]
      refine Ev.bind (ref_Strings_ev _ _ (ho _ (List.getElem_mem _)).1 b1) ?_
      rw [less_codes]
      refine evIf (fun hc => evSome ?_) (fun hc => ?_)
      · rw [decide_eq_false (by omega)]; simp
      · rw [decide_eq_true (by omega)]
        simpa [h1, h2] using hn
    · rw [dif_neg (by omega)]
      simp only [restS, hb0]
      refine Ev.bind (ref_Word_ev _ true b1) (evCond (fun h1 => ?_) (fun h1 => evSome (by simp [h1])))
      refine Ev.bind (ref_Value_ev _ _ _ b2) (evCond (fun h2 => ?_) (fun h2 => evSome (by simp [h2])))
      refine evNeg (by omega) ?_
      simpa [h1, h2] using hn
theorem ref_Binds_ev (l : List S62) (ho : BindsOk l) : Ev (fun k => constableref01_Binds.f k l) (bindsS l) := by
  unfold constableref01_Binds.f bindsS
  refine evIf (fun h => evSome ?_) (fun h => ?_)
  · rw [decide_eq_false (by omega)]; rfl
  · rw [decide_eq_true (by omega)]
    have := ref_Binds_l0 l ho (by omega) l.length 0 (by omega)
    rw [dif_neg (by omega)] at this
    simpa [(rest_rising l).1] using this
theorem ref_Get_ev (l : List S62) (s : ByteArray) (hl : l.length ≤ maxLen) : Ev (fun k => constableref01_Get.f k l s) (match getS l s with | some v => (v.f0, v.f1, v.f2, true) | none => (0, 0, ⟨#[]⟩, false)) := by
  unfold maxLen at hl
  have h : ∀ i : Nat, i ≤ l.length → Ev (fun k => constableref01_Get.l0 k l s i) (match getS (l.drop i) s with | some v => (v.f0, v.f1, v.f2, true) | none => (0, 0, ⟨#[]⟩, false)) := by
    refine back_ind l.length (fun k i => constableref01_Get.l0 k l s i) _ ?_ ?_
    · refine evShift ?_
      simp only [constableref01_Get.l0]
      refine evNeg (by omega) (evSome ?_)
      rw [List.drop_length]; rfl
    · intro i hi ih
      refine evShift ?_
      simp only [constableref01_Get.l0]
      refine evPos (by omega) (evPos (by omega) ?_)
      rw [rdB_nth l i hi, drop_at l i hi, wrap_succ hi (by omega)]
      by_cases e : l[i].f0 = s
      · refine evPos (by rw [e]) (evSome ?_)
        rw [getS_cons, if_pos e]
      · refine evNeg (fun h => e (tl_inj.1 h)) ?_
        rw [getS_cons, if_neg e]; exact ih
  have := h 0 (by omega)
  simpa [constableref01_Get.f] using this
theorem ref_Eval_l0 (l : List S52) (b : List S62) (hl : l.length ≤ 1000000) (hb : b.length ≤ maxLen) : ∀ (d i : Nat) (st : List S40), i + d = l.length → st.length ≤ i → deepS st.length (l.drop i) = some 1 →
    Ev (fun k => constableref01_Eval.l0 k l b st.reverse i) (tupV (evalS b st (l.drop i)).1 (evalS b st (l.drop i)).2) := by
  intro d
  induction d with
  | zero =>
    intro i st hi h1 hd
    rw [List.drop_of_length_le (by omega)] at hd ⊢
    simp only [deepS, Option.some.injEq] at hd
    match st, hd with
    | [v], _ =>
      refine evShift ?_
      simp only [constableref01_Eval.l0]
      exact evNeg (by omega) (evPos (by simp) (evSome rfl))
    | [], hd => simp at hd
    | _ :: _ :: _, hd => simp at hd; omega
  | succ d ih =>
    intro i st hi h1 hd
    have hlt : i < l.length := by omega
    rw [drop_at l i hlt] at hd ⊢
    refine evShift ?_
    simp only [constableref01_Eval.l0]
    refine evPos (by omega) (evPos (by omega) ?_)
    simp only [rdO_nth l i hlt]
    rw [wrap_succ hlt (by omega)]
    have next : pushS l[i] = true → (pushV b l[i]).2 = 0 → Ev (fun k => constableref01_Eval.l0 k l b (st.reverse ++ [(pushV b l[i]).1]) ((i + 1 : Nat) : Int)) (tupV (evalS b st (l[i] :: l.drop (i + 1))).1 (evalS b st (l[i] :: l.drop (i + 1))).2) := by
      intro hp he
      obtain ⟨_, hd2⟩ := deep_push hd hp
      simp only [evalS, hp, if_true, he]
      have := ih (i + 1) ((pushV b l[i]).1 :: st) (by omega) (by simp; omega) (by simpa using hd2)
      rw [List.reverse_cons] at this
      exact this
    refine evIf (fun k1 => ?_) (fun k1 => ?_)
    · have hp : pushS l[i] = true := decide_eq_true (.inl k1)
      refine Ev.bind (ref_Get_ev b l[i].f1 hb) ?_
      cases hg : getS b l[i].f1 with
      | some v =>
        have hpv : pushV b l[i] = (v, 0) := by unfold pushV; rw [if_neg (by omega), hg]
        refine evPos rfl (evPos (by simp; omega) ?_)
        have := next hp (by rw [hpv])
        rw [hpv] at this
        exact this
      | none =>
        have hpv : pushV b l[i] = (zV, 5) := by unfold pushV; rw [if_neg (by omega), hg]
        refine evNeg (by decide) (evSome ?_)
        simp only [evalS, hp, if_true, hpv]
        rfl
    · refine evIf (fun k2 => ?_) (fun k2 => ?_)
      · have hp : pushS l[i] = true := decide_eq_true (.inr k2)
        have hpv : pushV b l[i] = (l[i].f2, 0) := by unfold pushV; rw [if_pos k2]
        refine evPos (by simp; omega) ?_
        have := next hp (by rw [hpv])
        rw [hpv] at this
        exact this
      · have hp : pushS l[i] = false := decide_eq_false (by omega)
        obtain ⟨_, h2, hd2⟩ := deep_reck hd hp
        match st, h1, h2, hd2 with
        | [], _, h2, _ => simp at h2
        | [_], _, h2, _ => simp at h2
        | y :: x :: st, h1, h2, hd2 =>
          have e : (y :: x :: st).reverse = st.reverse ++ x :: y :: [] := by simp
          have e' : (y :: x :: st).reverse = (st.reverse ++ [x]) ++ y :: [] := by simp
          have w1 : wrap64 (((y :: x :: st).reverse.length : Int) - 2) = (st.reverse.length : Int) := by simp at h1 ⊢; unfold wrap64; omega
          have w2 : wrap64 (((y :: x :: st).reverse.length : Int) - 1) = ((st.reverse ++ [x]).length : Int) := by simp at h1 ⊢; unfold wrap64; omega
          rw [w1, w2]
          refine evPos (by omega) (evPos (by simp; omega) (evPos (by omega) (evPos (by simp) ?_)))
          rw [show rd_T40 (y :: x :: st).reverse (st.reverse.length : Int) = x from by rw [e]; exact rdV_mid _ _ _ _ rfl]
          rw [show rd_T40 (y :: x :: st).reverse ((st.reverse ++ [x]).length : Int) = y from by rw [e']; exact rdV_mid _ _ _ _ rfl]
          have bad : reckV l[i].f0 x y = (zV, 3) → Ev (fun k => constableref01_Eval.j1 k l b (y :: x :: st).reverse i true x.f0 x.f1 x.f2 y.f0 y.f1 y.f2) (tupV (evalS b (y :: x :: st) (l[i] :: l.drop (i + 1))).1 (evalS b (y :: x :: st) (l[i] :: l.drop (i + 1))).2) := by
            intro hr
            refine evShift ?_
            simp only [constableref01_Eval.j1, if_true]
            refine evSome ?_
            simp only [evalS, hp, Bool.false_eq_true, if_false, hr]
            rfl
          refine evIf (fun x1 => ?_) (fun x1 => ?_)
          · by_cases y1 : y.f0 = 1
            · have hy : (y.f0 != 1) = false := by simpa using y1
              rw [hy]
              refine evShift ?_
              simp only [constableref01_Eval.j1, Bool.false_eq_true, if_false]
              refine evPos (by omega) (evPos (by omega) ?_)
              rw [rdO_nth l i hlt]
              refine Ev.bind (ref_Do_ev _ _ _) ?_
              have hr : reckV l[i].f0 x y = if (doS l[i].f0 x.f1 y.f1).2 = 0 then (⟨1, (doS l[i].f0 x.f1 y.f1).1, ⟨#[]⟩⟩, 0) else (zV, (doS l[i].f0 x.f1 y.f1).2) := by unfold reckV; rw [if_pos ⟨x1, y1⟩]
              refine evIf (fun he => ?_) (fun he => ?_)
              · rw [if_pos he] at hr
                simp only [evalS, hp, Bool.false_eq_true, if_false, hr, if_true]
                rw [w1]
                have ht : (y :: x :: st).reverse.take ((st.reverse.length : Int)).toNat = st.reverse := by rw [e, Int.toNat_natCast, List.take_left]
                refine evPos (by omega) (evPos (by simp; omega) ?_)
                rw [ht, wrap_succ hlt (by omega)]
                refine evBind0 rfl (evPos (by simp at h1 ⊢; omega) ?_)
                have := ih (i + 1) ((⟨1, (doS l[i].f0 x.f1 y.f1).1, ⟨#[]⟩⟩ : S40) :: st) (by omega) (by simp at h1 ⊢; omega) (by
                  rw [← hd2]; congr 1; simp only [List.length_cons]; omega)
                rw [List.reverse_cons] at this
                exact this
              · rw [if_neg he] at hr
                simp only [evalS, hp, Bool.false_eq_true, if_false, hr, if_neg he]
                exact evSome rfl
            · have hy : (y.f0 != 1) = true := by simpa using y1
              rw [hy]
              exact bad (by unfold reckV; rw [if_neg (fun h => y1 h.2)])
          · exact bad (by unfold reckV; rw [if_neg (fun h => x1 h.1)])
theorem ref_Eval_ev (l : List S52) (b : List S62) (hl : exprS l = true) (hb : b.length ≤ maxLen) :
    Ev (fun k => constableref01_Eval.f k l b) (tupV (evalS b [] l).1 (evalS b [] l).2) := by
  simp only [exprS, Bool.and_eq_true, decide_eq_true_eq] at hl
  have := ref_Eval_l0 l b (by omega) hb l.length 0 [] (by omega) (by simp) (by simpa using hl.2)
  simpa [constableref01_Eval.f] using this
theorem twinOps_eq (l : List S52) (h : l.length ≤ 1000000) : constablekeep_TwinOps.f l = some l := by
  unfold constablekeep_TwinOps.f
  rw [if_pos (by simp; omega)]; rfl
theorem twinBinds_eq (l : List S62) (h : l.length ≤ 1000000) : constablekeep_TwinBinds.f l = some l := by
  unfold constablekeep_TwinBinds.f
  rw [if_pos (by simp; omega)]; rfl
theorem keep_Texts_ev (a b : List ByteArray) (h : a.length ≤ 1000000) (hab : a = b) : Ev (fun k => constablekeep_Texts.f k a b) true := by
  subst hab
  have h1 : ∀ i : Nat, i ≤ a.length → Ev (fun k => constablekeep_Texts.l0 k a a i) true := by
    refine back_ind a.length (fun k i => constablekeep_Texts.l0 k a a i) (fun _ => true) ?_ ?_
    · refine evShift ?_
      simp only [constablekeep_Texts.l0]
      exact evNeg (by omega) (evSome rfl)
    · intro i hi ih
      refine evShift ?_
      simp only [constablekeep_Texts.l0]
      refine evPos (by omega) (evPos (by omega) (evPos (by omega) (evPos (by simp) ?_)))
      rw [wrap_succ hi (by omega)]; exact ih
  exact evPos rfl (h1 0 (by omega))
theorem keep_Ops_ev (a : List S52) (h : a.length ≤ 1000000) : Ev (fun k => constablekeep_Ops.f k a a) true := by
  have h1 : ∀ i : Nat, i ≤ a.length → Ev (fun k => constablekeep_Ops.l0 k a a i) true := by
    refine back_ind a.length (fun k i => constablekeep_Ops.l0 k a a i) (fun _ => true) ?_ ?_
    · refine evShift ?_
      simp only [constablekeep_Ops.l0]
      exact evNeg (by omega) (evSome rfl)
    · intro i hi ih
      refine evShift ?_
      simp only [constablekeep_Ops.l0]
      refine evPos (by omega) (evPos (by omega) (evPos (by omega) (evNeg (by simp) ?_)))
      rw [wrap_succ hi (by omega)]; exact ih
  exact evPos rfl (h1 0 (by omega))
theorem keep_Binds_ev (a : List S62) (h : a.length ≤ 1000000) : Ev (fun k => constablekeep_Binds.f k a a) true := by
  have h1 : ∀ i : Nat, i ≤ a.length → Ev (fun k => constablekeep_Binds.l0 k a a i) true := by
    refine back_ind a.length (fun k i => constablekeep_Binds.l0 k a a i) (fun _ => true) ?_ ?_
    · refine evShift ?_
      simp only [constablekeep_Binds.l0]
      exact evNeg (by omega) (evSome rfl)
    · intro i hi ih
      refine evShift ?_
      simp only [constablekeep_Binds.l0]
      refine evPos (by omega) (evPos (by omega) (evPos (by omega) (evNeg (by simp) ?_)))
      rw [wrap_succ hi (by omega)]; exact ih
  exact evPos rfl (h1 0 (by omega))
theorem ref_With_ev (l : List ByteArray) (s : ByteArray) (h : l.length ≤ 1000000) : Ev (fun k => constableref01_With.f k l s) (if (decide (s = ⟨#[]⟩) || l.any fun x => decide (x = s)) then l else l ++ [s]) := by
  have h1 : ∀ i : Nat, i ≤ l.length → Ev (fun k => constableref01_With.l0 k l s i) (if (l.drop i).any (fun x => decide (x = s)) then l else l ++ [s]) := by
    refine back_ind l.length (fun k i => constableref01_With.l0 k l s i) _ ?_ ?_
    · refine evShift ?_
      simp only [constableref01_With.l0]
      refine evNeg (by omega) (evPos (by omega) (evSome ?_))
      rw [List.drop_length]; rfl
    · intro i hi ih
      refine evShift ?_
      simp only [constableref01_With.l0]
      refine evPos (by omega) (evPos (by omega) ?_)
      rw [rdS_nth l i hi, drop_at l i hi, wrap_succ hi (by omega)]
      have hc : (l[i] :: l.drop (i + 1)).any (fun x => decide (x = s)) = (decide (l[i] = s) || (l.drop (i + 1)).any fun x => decide (x = s)) := List.any_cons
      rw [hc]
      refine evIf (fun e => evSome ?_) (fun e => ?_)
      · rw [decide_eq_true (tl_inj.1 e)]; simp
      · rw [decide_eq_false (fun h => e (tl_inj.2 h)), Bool.false_or]; exact ih
  unfold constableref01_With.f
  refine evIf (fun e => evSome ?_) (fun e => ?_)
  · have : s = ⟨#[]⟩ := size_zero.1 (by omega)
    simp [this]
  · have hs : ¬ s = ⟨#[]⟩ := fun h => e (by rw [size_zero.2 h]; rfl)
    rw [decide_eq_false hs, Bool.false_or]
    exact h1 0 (by omega)
theorem vars_len (l : List S52) : ∀ out : List ByteArray, (varsS out l).length ≤ out.length + l.length := by
  induction l with
  | nil => intro out; simp [varsS]
  | cons o l ih =>
    intro out
    simp only [varsS]
    split
    · have := ih out; simp; omega
    · have := ih (out ++ [o.f1]); simp at this ⊢; omega
theorem ref_ExprVars_l0 (l : List S52) (hl : l.length ≤ 100000) : ∀ (d i : Nat) (out : List ByteArray), i + d = l.length → out.length ≤ i →
    Ev (fun k => constableref01_ExprVars.l0 k l out i) (varsS out (l.drop i)) := by
  intro d
  induction d with
  | zero =>
    intro i out hi h1
    refine evShift ?_
    simp only [constableref01_ExprVars.l0]
    refine evNeg (by omega) (evSome ?_)
    rw [List.drop_of_length_le (by omega)]; rfl
  | succ d ih =>
    intro i out hi h1
    have hlt : i < l.length := by omega
    refine evShift ?_
    simp only [constableref01_ExprVars.l0]
    refine evPos (by omega) (evPos (by omega) ?_)
    simp only [rdO_nth l i hlt]
    rw [drop_at l i hlt, wrap_succ hlt (by omega)]
    refine Ev.bind (ref_With_ev out l[i].f1 (by omega)) ?_
    simp only [varsS]
    split
    · exact ih (i + 1) out (by omega) (by omega)
    · exact ih (i + 1) (out ++ [l[i].f1]) (by omega) (by simp; omega)
theorem ref_ExprVars_ev (l : List S52) (hl : l.length ≤ 100000) : Ev (fun k => constableref01_ExprVars.f k l) (varsS [] l) := by
  have := ref_ExprVars_l0 l hl l.length 0 [] (by omega) (by simp)
  simpa [constableref01_ExprVars.f] using this
theorem opS_kind {o : S52} (h : opS o = true) : (o.f0 ≥ 3 ↔ pushS o = false) := by
  unfold opS at h
  unfold pushS
  rw [decide_eq_false_iff_not]
  by_cases k1 : o.f0 = 1
  · omega
  · by_cases k2 : o.f0 = 2
    · omega
    · rw [if_neg k1, if_neg k2] at h
      simp only [Bool.and_eq_true, decide_eq_true_eq] at h
      omega
theorem deep_ops : ∀ (l : List S52) (n m : Int), deepS n l = some m → ∀ o ∈ l, opS o = true
  | [], _, _, _, o, ho => by simp at ho
  | x :: l, n, m, h, o, ho => by
    have hx : opS x = true ∧ ∃ n', deepS n' l = some m := by
      cases hp : pushS x with
      | true => obtain ⟨h1, h2⟩ := deep_push h hp; exact ⟨h1, _, h2⟩
      | false => obtain ⟨h1, _, h2⟩ := deep_reck h hp; exact ⟨h1, _, h2⟩
    rcases List.mem_cons.1 ho with rfl | ho
    · exact hx.1
    · obtain ⟨n', h2⟩ := hx.2
      exact deep_ops l n' m h2 o ho
theorem ref_Part_l0 (l : List S52) (hl : l.length ≤ 1000000) (hop : ∀ o ∈ l, opS o = true) : ∀ (i : Nat) (need : Int), i < l.length → 1 ≤ need → need + i ≤ 2000000 →
    Ev (fun k => constableref01_Part.l0 k l need i) (partS need (l.take (i + 1)).reverse) := by
  intro i
  induction i with
  | zero =>
    intro need hi h1 h2
    rw [take_snoc l 0 hi]
    simp only [partS, List.take_zero, List.reverse_nil, List.length_nil]
    refine evShift ?_
    simp only [constableref01_Part.l0]
    refine evPos (by omega) (evPos (by omega) (evPos (by omega) ?_))
    have e0 : rd_T52 l ((0 : Nat) : Int) = l[0] := rdO_nth l 0 hi
    rw [e0]
    have hk := opS_kind (hop _ (List.getElem_mem hi))
    have w1 : wrap64 (need - 1) = need - 1 := by unfold wrap64; omega
    have w2 : wrap64 (need + 1) = need + 1 := by unfold wrap64; omega
    have w3 : wrap64 (((0 : Nat) : Int) - 1) = -1 := by unfold wrap64; omega
    rw [w1, w2, w3]
    have out : ∀ m : Int, Ev (fun k => constableref01_Part.l0 k l m (-1)) (-1) := by
      intro m
      refine evShift ?_
      simp only [constableref01_Part.l0]
      exact evNeg (by omega) (evSome rfl)
    refine evIf (fun hge => ?_) (fun hge => ?_)
    · rw [hk.1 hge]
      simp only [Bool.false_eq_true, if_false]
      refine evIf (fun h0 => ?_) (fun h0 => ?_)
      · rw [if_pos h0]; exact evSome rfl
      · rw [if_neg h0]; exact out _
    · have hp : pushS l[0] = true := by
        cases hp : pushS l[0] with
        | true => rfl
        | false => exact absurd (hk.2 hp) hge
      rw [hp]
      simp only [if_true]
      refine evIf (fun h0 => ?_) (fun h0 => ?_)
      · rw [if_pos h0]; exact evSome rfl
      · rw [if_neg h0]; exact out _
  | succ i ih =>
    intro need hi h1 h2
    rw [take_snoc l (i + 1) hi]
    simp only [partS]
    refine evShift ?_
    simp only [constableref01_Part.l0]
    refine evPos (by omega) (evPos (by omega) (evPos (by omega) ?_))
    rw [rdO_nth l (i + 1) hi]
    have hk := opS_kind (hop _ (List.getElem_mem hi))
    have w1 : wrap64 (need - 1) = need - 1 := by unfold wrap64; omega
    have w2 : wrap64 (need + 1) = need + 1 := by unfold wrap64; omega
    have w3 : wrap64 (((i + 1 : Nat) : Int) - 1) = (i : Int) := by unfold wrap64; omega
    rw [w1, w2, w3]
    have hlen : ((l.take (i + 1)).reverse.length : Int) = ((i + 1 : Nat) : Int) := by simp; omega
    refine evIf (fun hge => ?_) (fun hge => ?_)
    · rw [hk.1 hge]
      simp only [Bool.false_eq_true, if_false]
      refine evIf (fun h0 => ?_) (fun h0 => ?_)
      · rw [if_pos h0, hlen]; exact evSome rfl
      · rw [if_neg h0]; exact ih _ (by omega) (by omega) (by omega)
    · have hp : pushS l[i + 1] = true := by
        cases hp : pushS l[i + 1] with
        | true => rfl
        | false => exact absurd (hk.2 hp) hge
      rw [hp]
      simp only [if_true]
      refine evIf (fun h0 => ?_) (fun h0 => ?_)
      · rw [if_pos h0, hlen]; exact evSome rfl
      · rw [if_neg h0]; exact ih _ (by omega) (by omega) (by omega)
def heavyO (l : List S52) : Bool := decide (l.length > 40) || l.any fun o => decide (o.f1.size > 200) || decide (o.f2.f2.size > 200)
def heavyB (l : List S62) : Bool := decide (l.length > 110) || l.any fun o => decide (o.f0.size > 200) || decide (o.f1.f2.size > 200)
theorem heavy07_ev (l : List S52) : Ev (fun k => constablelaw07_Heavy.f k l) (heavyO l) := by
  unfold constablelaw07_Heavy.f heavyO
  refine evIf (fun h => evSome ?_) (fun h => ?_)
  · rw [decide_eq_true (by omega)]; rfl
  · rw [decide_eq_false (by omega), Bool.false_or]
    have h1 : ∀ i : Nat, i ≤ l.length → Ev (fun k => constablelaw07_Heavy.l0 k l i) ((l.drop i).any fun o => decide (o.f1.size > 200) || decide (o.f2.f2.size > 200)) := by
      refine back_ind l.length (fun k i => constablelaw07_Heavy.l0 k l i) _ ?_ ?_
      · refine evShift ?_
        simp only [constablelaw07_Heavy.l0]
        refine evNeg (by omega) (evSome ?_)
        rw [List.drop_length]; rfl
      · intro i hi ih
        refine evShift ?_
        simp only [constablelaw07_Heavy.l0]
        refine evPos (by omega) (evPos (by omega) ?_)
        rw [rdO_nth l i hi, drop_at l i hi, wrap_succ hi (by omega)]
        simp only [List.any_cons]
        refine evIf (fun e => evSome ?_) (fun e => ?_)
        · rw [decide_eq_true (by omega)]; rfl
        · rw [decide_eq_false (by omega)]
          refine evIf (fun e => evSome ?_) (fun e => ?_)
          · rw [decide_eq_true (by omega)]; rfl
          · rw [decide_eq_false (by omega)]; exact ih
    have := h1 0 (by omega)
    simpa using this
theorem heavy05_ev (l : List S62) : Ev (fun k => constablelaw05_Heavy.f k l) (heavyB l) := by
  unfold constablelaw05_Heavy.f heavyB
  refine evIf (fun h => evSome ?_) (fun h => ?_)
  · rw [decide_eq_true (by omega)]; rfl
  · rw [decide_eq_false (by omega), Bool.false_or]
    have h1 : ∀ i : Nat, i ≤ l.length → Ev (fun k => constablelaw05_Heavy.l0 k l i) ((l.drop i).any fun o => decide (o.f0.size > 200) || decide (o.f1.f2.size > 200)) := by
      refine back_ind l.length (fun k i => constablelaw05_Heavy.l0 k l i) _ ?_ ?_
      · refine evShift ?_
        simp only [constablelaw05_Heavy.l0]
        refine evNeg (by omega) (evSome ?_)
        rw [List.drop_length]; rfl
      · intro i hi ih
        refine evShift ?_
        simp only [constablelaw05_Heavy.l0]
        refine evPos (by omega) (evPos (by omega) ?_)
        rw [rdB_nth l i hi, drop_at l i hi, wrap_succ hi (by omega)]
        simp only [List.any_cons]
        refine evIf (fun e => evSome ?_) (fun e => ?_)
        · rw [decide_eq_true (by omega)]; rfl
        · rw [decide_eq_false (by omega)]
          refine evIf (fun e => evSome ?_) (fun e => ?_)
          · rw [decide_eq_true (by omega)]; rfl
          · rw [decide_eq_false (by omega)]; exact ih
    have := h1 0 (by omega)
    simpa using this
theorem light_ops {l : List S52} (h : heavyO l = false) : l.length ≤ 40 ∧ OpsOk l := by
  unfold heavyO at h
  simp only [Bool.or_eq_false_iff, decide_eq_false_iff_not, List.any_eq_false, Bool.or_eq_true, decide_eq_true_eq, not_or] at h
  refine ⟨by omega, fun o ho => ?_⟩
  have := h.2 o ho
  unfold maxLen
  constructor <;> omega
theorem light_binds {l : List S62} (h : heavyB l = false) : l.length ≤ 110 ∧ BindsOk l := by
  unfold heavyB at h
  simp only [Bool.or_eq_false_iff, decide_eq_false_iff_not, List.any_eq_false, Bool.or_eq_true, decide_eq_true_eq, not_or] at h
  refine ⟨by omega, fun o ho => ?_⟩
  have := h.2 o ho
  unfold maxLen
  constructor <;> omega
end Go.Proofs.Ytconpnagoijacaa.P
end
section
namespace Go.Proofs.Ytconpnagoijacaa.P
open Go.RowKit Go.Proofs.YtconpnagoijacaaW.PrintWords Go.Proofs.YtconpnagoijacaaW.PrintLast Go.Proofs.YtconpnagoijacaaW.PrintMore
theorem wakes07_ev : Ev (fun k => constablelaw07_wakes.f k) true := Ev.of (constablelaw07_wakes.mono) (k := 60) (by decide +kernel)
theorem wakesEnd {g : Nat → Option Bool} (h : Ev g true) : Ev (fun k => (g k).bind fun t => some t) true := Ev.bind h (evSome rfl)
end Go.Proofs.Ytconpnagoijacaa.P
end
section
namespace Go.Proofs.Ytconpnagoijacaa.P
open Go.RowKit Go.Proofs.YtconpnagoijacaaW.PrintWords Go.Proofs.YtconpnagoijacaaW.PrintLast Go.Proofs.YtconpnagoijacaaW.PrintMore
def runS (b : List S62) : List S40 → List S52 → Except Int (List S40)
  | st, [] => .ok st
  | st, o :: l =>
    if pushS o then (if (pushV b o).2 = 0 then runS b ((pushV b o).1 :: st) l else .error (pushV b o).2)
    else match st with
      | y :: x :: st => if (reckV o.f0 x y).2 = 0 then runS b ((reckV o.f0 x y).1 :: st) l else .error (reckV o.f0 x y).2
      | _ => .error 0
theorem eval_run (b : List S62) : ∀ (l : List S52) (st : List S40), evalS b st l = match runS b st l with | .ok st => (st.getLastD zV, 0) | .error e => (zV, e)
  | [], st => rfl
  | o :: l, st => by
    simp only [evalS, runS]
    split
    · split
      · exact eval_run b l _
      · rfl
    · match st with
      | [] => rfl
      | [_] => rfl
      | y :: x :: st =>
        simp only
        split
        · exact eval_run b l _
        · rfl
theorem run_append (b : List S62) : ∀ (P R : List S52) (st : List S40), runS b st (P ++ R) = match runS b st P with | .ok st => runS b st R | .error e => .error e
  | [], R, st => rfl
  | o :: P, R, st => by
    simp only [List.cons_append, runS]
    split
    · split
      · exact run_append b P R _
      · rfl
    · match st with
      | [] => rfl
      | [_] => rfl
      | y :: x :: st =>
        simp only
        split
        · exact run_append b P R _
        · rfl
theorem run_frame (b : List S62) (tl : List S40) : ∀ (P : List S52) (st : List S40) (m : Int), deepS st.length P = some m →
    (∀ st', runS b st P = .ok st' → runS b (st ++ tl) P = .ok (st' ++ tl) ∧ (st'.length : Int) = m) ∧ (∀ e, runS b st P = .error e → runS b (st ++ tl) P = .error e ∧ e ≠ 0)
  | [], st, m, h => by
    simp only [deepS, Option.some.injEq] at h
    refine ⟨fun st' h' => ?_, fun e h' => ?_⟩
    · simp only [runS, Except.ok.injEq] at h' ⊢
      subst h'
      exact ⟨rfl, h⟩
    · simp [runS] at h'
  | o :: P, st, m, h => by
    cases hp : pushS o with
    | true =>
      obtain ⟨_, h2⟩ := deep_push h hp
      have ih := run_frame b tl P ((pushV b o).1 :: st) m (by simpa using h2)
      simp only [runS, hp, if_true]
      by_cases he : (pushV b o).2 = 0
      · simp only [he, if_true]; exact ih
      · simp only [he, if_false]
        refine ⟨(fun st' h' => by cases h'), fun e h' => ?_⟩
        simp only [Except.error.injEq] at h'
        subst h'
        exact ⟨rfl, he⟩
    | false =>
      obtain ⟨_, h2, h3⟩ := deep_reck h hp
      match st, h2, h3 with
      | [], h2, _ => simp at h2
      | [_], h2, _ => simp at h2
      | y :: x :: st, h2, h3 =>
        have ih := run_frame b tl P ((reckV o.f0 x y).1 :: st) m (by rw [← h3]; congr 1; simp only [List.length_cons]; omega)
        simp only [runS, hp, Bool.false_eq_true, if_false, List.cons_append]
        by_cases he : (reckV o.f0 x y).2 = 0
        · simp only [he, if_true]; exact ih
        · simp only [he, if_false]
          refine ⟨(fun st' h' => by cases h'), fun e h' => ?_⟩
          simp only [Except.error.injEq] at h'
          subst h'
          exact ⟨rfl, he⟩
theorem run_expr (b : List S62) (l : List S52) (h : deepS 0 l = some 1) : (∃ v, runS b [] l = .ok [v] ∧ evalS b [] l = (v, 0) ∧ ∀ tl, runS b tl l = .ok (v :: tl)) ∨ (∃ e, e ≠ 0 ∧ runS b [] l = .error e ∧ evalS b [] l = (zV, e) ∧ ∀ tl, runS b tl l = .error e) := by
  have hf := fun tl => run_frame b tl l [] 1 (by simpa using h)
  cases hr : runS b [] l with
  | ok st =>
    left
    have h1 := ((hf []).1 st hr).2
    match st, h1 with
    | [v], _ =>
      refine ⟨v, rfl, by rw [eval_run, hr]; rfl, fun tl => ?_⟩
      simpa using ((hf tl).1 [v] hr).1
    | [], h1 => simp at h1
    | _ :: _ :: _, h1 => simp at h1; omega
  | error e =>
    right
    exact ⟨e, ((hf []).2 e hr).2, rfl, by rw [eval_run, hr], fun tl => by simpa using ((hf tl).2 e hr).1⟩
theorem expr_len {l : List S52} (h : exprS l = true) : 1 ≤ l.length ∧ l.length ≤ 15 ∧ deepS 0 l = some 1 := by
  simp only [exprS, Bool.and_eq_true, decide_eq_true_eq] at h
  exact ⟨h.1.1, h.1.2, h.2⟩
theorem expr_mk {l : List S52} (h1 : 1 ≤ l.length) (h2 : l.length ≤ 15) (h3 : deepS 0 l = some 1) : exprS l = true := by
  simp only [exprS, Bool.and_eq_true, decide_eq_true_eq]
  exact ⟨⟨h1, h2⟩, h3⟩
theorem part_lt : ∀ (r : List S52) (m : Int), partS m r < r.length
  | [], m => by simp [partS]
  | o :: r, m => by
    simp only [partS, List.length_cons]
    have := part_lt r (if pushS o then m - 1 else m + 1)
    generalize (if pushS o then m - 1 else m + 1) = c at *
    split <;> omega
theorem part_comp : ∀ (r : List S52) (m n : Int) (q : Nat), 1 ≤ m → 1 ≤ n → partS m r = q → partS (n + m) r = partS n (r.drop (r.length - q))
  | [], m, n, q, _, _, h => by simp only [partS] at h; omega
  | o :: r, m, n, q, h1, h2, h => by
    have hlt := part_lt (o :: r) m
    rw [h] at hlt
    simp only [partS] at h
    have e : (if pushS o then n + m - 1 else n + m + 1) = n + (if pushS o then m - 1 else m + 1) := by split <;> omega
    have step : partS (n + m) (o :: r) = if n + (if pushS o then m - 1 else m + 1) = 0 then (r.length : Int) else partS (n + (if pushS o then m - 1 else m + 1)) r := by
      simp only [partS]; rw [e]
    rw [step]
    have h0 : 0 ≤ (if pushS o then m - 1 else m + 1) := by split <;> omega
    generalize (if pushS o then m - 1 else m + 1) = c at *
    by_cases hc : c = 0
    · rw [if_pos hc] at h
      have : q = r.length := by omega
      subst this
      rw [if_neg (by omega), hc, Int.add_zero]
      simp only [List.length_cons]
      rw [show r.length + 1 - r.length = 1 by omega]; rfl
    · rw [if_neg hc] at h
      rw [if_neg (by omega), part_comp r c n q (by omega) h2 h]
      have hq : q ≤ r.length := by
        have := part_lt r c
        omega
      simp only [List.length_cons]
      rw [show r.length + 1 - q = (r.length - q) + 1 by omega, List.drop_succ_cons]
end Go.Proofs.Ytconpnagoijacaa.P
end
section
namespace Go.Proofs.Ytconpnagoijacaa.P
open Go.RowKit Go.Proofs.YtconpnagoijacaaW.PrintWords Go.Proofs.YtconpnagoijacaaW.PrintLast Go.Proofs.YtconpnagoijacaaW.PrintMore
structure Opens {α : Type} (d : Kd α) (P : Program) (t : TypeId) (ok : α → Prop) : Prop where
  cells : P.cellsOf t = d.sz
  opens : ∀ {H : Type} {enc : TypeId × Value → H} {w : World} {base : Nat} {spare : Nat → Bool} {held : Bool} {fuel : Nat} {cs : List Value} {x : DataW H × List MemPlace},
    DataW.trod enc P w base spare held fuel t cs = some x → ∃ v, d.K w v cs ∧ ok v
theorem Opens.mono {α : Type} {d : Kd α} {P : Program} {t : TypeId} {ok ok' : α → Prop} (h : Opens d P t ok) (hm : ∀ v, ok v → ok' v) : Opens d P t ok' :=
  ⟨h.cells, fun hx => by obtain ⟨v, h1, h2⟩ := h.opens hx; exact ⟨v, h1, hm v h2⟩⟩
theorem Opens.int {k : IntKind} {P : Program} {t : TypeId} (hu : P.underlying t = some (.int k)) (hc : P.cellsOf t = 1) : Opens (Kd.int k) P t (fun n => (Lit.int k n).wf = true) :=
  ⟨hc, fun hx => by obtain ⟨m, rfl, rfl, hw⟩ := DataW.trod_int hu hx; exact ⟨m, rfl, hw⟩⟩
theorem Opens.string {P : Program} {t : TypeId} (hu : P.underlying t = some .string) (hc : P.cellsOf t = 1) : Opens Kd.string P t (fun s => s.size ≤ maxLen) :=
  ⟨hc, fun hx => by obtain ⟨s, rfl, _, hw⟩ := DataW.trod_string hu hx; exact ⟨s, rfl, hw⟩⟩
theorem Opens.bool {P : Program} {t : TypeId} (hu : P.underlying t = some .bool) (hc : P.cellsOf t = 1) : Opens Kd.bool P t (fun _ => True) :=
  ⟨hc, fun hx => by obtain ⟨b, rfl, _⟩ := DataW.trod_bool hu hx; exact ⟨b, rfl, trivial⟩⟩
theorem Opens.iso {α β : Type} {d : Kd α} {P : Program} {t : TypeId} {ok : α → Prop} {f : β → α} (g : α → β) (hg : ∀ a, f (g a) = a) (h : Opens d P t ok) : Opens (Kd.iso d f) P t (fun b => ok (f b)) :=
  ⟨h.cells, fun hx => by
    obtain ⟨v, h1, h2⟩ := h.opens hx
    refine ⟨g v, ?_, ?_⟩
    · show d.K _ (f (g v)) _
      rw [hg]; exact h1
    · show ok (f (g v))
      rw [hg]; exact h2⟩
structure OpensFs {α : Type} (d : Kd α) (P : Program) (fs : List Field) (off : Nat) (ok : α → Prop) : Prop where
  opens : ∀ {H : Type} {enc : TypeId × Value → H} {w : World} {base : Nat} {spare : Nat → Bool} {held : Bool} {fuel : Nat} {cs : List Value},
    off + d.sz = cs.length → (∀ (i : Nat) (f : Field), fs[i]? = some f → ∃ x, DataW.trod enc P w base spare held fuel f.type ((cs.drop f.offset).take (P.cellsOf f.type)) = some x) → ∃ v, d.K w v (cs.drop off) ∧ ok v
theorem OpensFs.one {α : Type} {d : Kd α} {P : Program} {f : Field} {off : Nat} {ok : α → Prop} (ho : f.offset = off) (h : Opens d P f.type ok) : OpensFs d P [f] off ok := by
  refine ⟨?_⟩
  intro H enc w base spare held fuel cs hl hx
  obtain ⟨x, hx⟩ := hx 0 f rfl
  rw [ho, h.cells, List.take_of_length_le (by simp; omega)] at hx
  exact h.opens hx
theorem OpensFs.cons {α β : Type} {d : Kd α} {d' : Kd β} {P : Program} {f : Field} {fs : List Field} {off : Nat} {ok : α → Prop} {ok' : β → Prop} {ok2 : α × β → Prop} (ho : f.offset = off) (h : Opens d P f.type ok) (h' : OpensFs d' P fs (off + d.sz) ok') (hk : ∀ v, ok v.1 → ok' v.2 → ok2 v) :
    OpensFs (Kd.pair d d') P (f :: fs) off ok2 := by
  refine ⟨?_⟩
  intro H enc w base spare held fuel cs hl hx
  obtain ⟨x, hx0⟩ := hx 0 f rfl
  rw [ho, h.cells] at hx0
  obtain ⟨v, hv, ov⟩ := h.opens hx0
  have hl' : off + (d.sz + d'.sz) = cs.length := hl
  obtain ⟨u, hu, ou⟩ := h'.opens (cs := cs) (by omega) (fun i g hg => hx (i + 1) g hg)
  refine ⟨(v, u), ⟨(cs.drop off).take d.sz, cs.drop (off + d.sz), ?_, hv, hu⟩, hk (v, u) ov ou⟩
  rw [← List.drop_drop, List.take_append_drop]
theorem Opens.struct {α : Type} {d : Kd α} {P : Program} {t : TypeId} {fs : Array Field} {ok : α → Prop} (hu : P.underlying t = some (.struct fs)) (hc : P.cellsOf t = d.sz) (h : OpensFs d P fs.toList 0 ok) : Opens d P t ok := by
  refine ⟨hc, ?_⟩
  intro H enc w base spare held fuel cs x hx
  obtain ⟨xs, n, rfl, _, hl, hxl, hf⟩ := DataW.trod_struct hu hx
  have := h.opens (cs := cs) (enc := enc) (w := w) (base := base) (spare := spare) (held := held) (fuel := n) (by omega) (by
    intro i f hi
    have hi' : fs[i]? = some f := by simpa using hi
    have hlt : i < xs.length := by
      rw [hxl]
      exact (Array.getElem?_eq_some_iff.1 hi').1
    exact ⟨xs[i], by rw [hf i f hi', List.getElem?_eq_getElem hlt]⟩)
  simpa using this
theorem list_of {α : Type} {Q : Nat → α → Prop} : ∀ n : Nat, (∀ i, i < n → ∃ v, Q i v) → ∃ l : List α, l.length = n ∧ ∀ i v, l[i]? = some v → Q i v := by
  intro n
  induction n with
  | zero => intro _; exact ⟨[], rfl, fun i v h => by simp at h⟩
  | succ n ih =>
    intro h
    obtain ⟨l, hl, hq⟩ := ih (fun i hi => h i (by omega))
    obtain ⟨v, hv⟩ := h n (by omega)
    refine ⟨l ++ [v], by simp [hl], ?_⟩
    intro i u hu
    by_cases hi : i < l.length
    · rw [List.getElem?_append_left hi] at hu
      exact hq i u hu
    · rw [List.getElem?_append_right (by omega)] at hu
      have h0 : i - l.length = 0 := by
        by_cases h0 : i - l.length = 0
        · exact h0
        · rw [List.getElem?_eq_none (by simp; omega)] at hu; cases hu
      rw [h0] at hu
      simp at hu
      subst hu
      have : i = n := by omega
      subst this
      exact hv
theorem Opens.row {α : Type} {d : Kd α} {P : Program} {t e : TypeId} {ok : α → Prop} (h : Opens d P e ok) (hu : P.underlying t = some (.slice e))
    {H : Type} {enc : TypeId × Value → H} {w : World} {base : Nat} {spare : Nat → Bool} {held : Bool} {fuel : Nat} {A : Option Addr} {len cap : Nat} {x : DataW H × List MemPlace}
    (hx : DataW.trod enc P w base spare held fuel t [.slice A len cap] = some x) : ∃ l, l.length = len ∧ d.C w A len l ∧ len ≤ cap ∧ cap ≤ maxLen ∧ ∀ v ∈ l, ok v := by
  rcases DataW.trod_slice hu hx with ⟨hcs, _⟩ | ⟨a, len', cap', elems, rest, n, rfl, hcs, _, hb, hl, hm, hlen, hel, _⟩
  · simp only [List.cons.injEq, Value.slice.injEq, and_true] at hcs
    obtain ⟨rfl, rfl, rfl⟩ := hcs
    exact ⟨[], rfl, ⟨rfl, by omega, fun h => by omega⟩, Nat.le_refl _, by unfold maxLen; omega, fun v hv => by simp at hv⟩
  · simp only [List.cons.injEq, Value.slice.injEq, and_true] at hcs
    obtain ⟨rfl, rfl, rfl⟩ := hcs
    obtain ⟨l, hll, hq⟩ := list_of (Q := fun i v => ∃ cs, w.cells? base (a.add (i * P.cellsOf e)) (P.cellsOf e) = some cs ∧ d.K w v cs ∧ ok v) len (by
      intro i hi
      have h1 := hel i hi
      rw [List.getElem?_eq_getElem (by omega), Option.bind_eq_some_iff] at h1
      obtain ⟨cs, h2, h3⟩ := h1
      obtain ⟨v, h4, h5⟩ := h.opens h3
      exact ⟨v, cs, h2, h4, h5⟩)
    refine ⟨l, hll, ⟨hll, by unfold maxLen at hm; omega, fun _ => ⟨a, rfl, ?_⟩⟩, hl, hm, ?_⟩
    · intro j p hp
      obtain ⟨cs, h2, h4, _⟩ := hq j p hp
      obtain ⟨_, h6, h7⟩ := World.cells?_some h2
      refine ⟨cs, by rw [h6, h.cells], h4, ?_⟩
      intro i u hi
      have hlt : i < P.cellsOf e := by rw [← h6]; exact (List.getElem?_eq_some_iff.1 hi).1
      have h8 := h7 i hlt
      rw [Addr.add_add, h.cells, hi] at h8
      exact h8
    · intro v hv
      obtain ⟨i, hi⟩ := List.getElem?_of_mem hv
      obtain ⟨_, _, _, h5⟩ := hq i v hi
      exact h5
theorem Opens.slice {α : Type} {d : Kd α} {P : Program} {t e : TypeId} {ok : α → Prop} (h : Opens d P e ok) (hu : P.underlying t = some (.slice e)) (hc : P.cellsOf t = 1) : Opens (Kd.slice e d) P t (fun l => l.length ≤ maxLen ∧ ∀ v ∈ l, ok v) := by
  refine ⟨hc, ?_⟩
  intro H enc w base spare held fuel cs x hx
  have hx0 := hx
  rcases DataW.trod_slice hu hx with ⟨hcs, _⟩ | ⟨a, len', cap', elems, rest, n, rfl, hcs, _⟩ <;> subst hcs
  all_goals
    obtain ⟨l, h1, h2, h3, h4, h5⟩ := h.row hu hx0
    have h6 := Nat.le_trans h3 h4
    rw [← h1] at h2 h3 h6 ⊢
    exact ⟨l, ⟨_, _, rfl, h3, h2⟩, h6, h5⟩
theorem Opens.arg {α : Type} {d : Kd α} {P : Program} {t e : TypeId} {ok : α → Prop} (h : Opens d P e ok) (hu : P.underlying t = some (.slice e)) {B : Nat} (hB : P.bytesOf e = B)
    {H : Type} {enc : TypeId × Value → H} {w : World} {base : Nat} {spare : Nat → Bool} {held : Bool} {a : Option Addr} {len cap : Nat} {x : DataW H} {ps : List MemPlace} {ts : List TypeId} {ds : List (DataW H)} {j : Nat}
    (hsz : (DataW.weightsEach P ts ds).all (· ≤ reachBytes) = true) (ht : ts[j]? = some t) (hd : ds[j]? = some x)
    (hx : DataW.Trod enc P w base spare held t (.slice a len cap) x ps) : ∃ l, l.length = len ∧ d.C w a len l ∧ len ≤ cap ∧ (len ≤ maxLen ∧ len * B ≤ 140737488351232) ∧ ∀ v ∈ l, ok v := by
  obtain ⟨fuel, hf⟩ := hx
  have hf' : DataW.trod enc P w base spare held fuel t [.slice a len cap] = some (x, ps) := hf
  obtain ⟨l, h1, h2, h3, h4, h5⟩ := h.row hu hf'
  refine ⟨l, h1, h2, h3, ⟨Nat.le_trans h3 h4, ?_⟩, h5⟩
  rcases DataW.trod_slice hu hf' with ⟨hcs, _⟩ | ⟨a', len', cap', elems, rest, n, _, hcs, hxx, _, hl, _, hlen, _⟩
  · simp only [List.cons.injEq, Value.slice.injEq, and_true] at hcs
    obtain ⟨_, rfl, _⟩ := hcs
    omega
  · simp only [List.cons.injEq, Value.slice.injEq, and_true] at hcs
    obtain ⟨_, rfl, _⟩ := hcs
    obtain ⟨rfl, _⟩ := Prod.mk.inj hxx
    have z := sized_slice hsz ht hd hu
    rw [hB] at z
    have : len ≤ (elems.map (·.1)).length + (rest.map (·.1)).length := by simp; omega
    exact Nat.le_trans (Nat.mul_le_mul_right _ this) z
theorem Opens.agg {α : Type} {d : Kd α} {P : Program} {t : TypeId} {ok : α → Prop} (h : Opens d P t ok) {fs : Array Field} (hu : P.underlying t = some (.struct fs))
    {H : Type} {enc : TypeId × Value → H} {w : World} {r : Reach} {base b0 : Nat} {spare : Nat → Bool} {held : Bool} {v : Value} {x : DataW H} {ps : List MemPlace}
    (hv : Value.okWide P w r b0 t v) (hx : DataW.Trod enc P w base spare held t v x ps) : ∃ u cs, v = .agg ⟨cs⟩ ∧ d.K w u cs ∧ ok u := by
  obtain ⟨cs, rfl, _⟩ := Go.WideShapes.okWide_struct hu hv
  obtain ⟨fuel, hf⟩ := hx
  obtain ⟨u, h1, h2⟩ := h.opens hf
  exact ⟨u, cs.toList, rfl, h1, h2⟩
end Go.Proofs.Ytconpnagoijacaa.P
end
section
namespace Go.Proofs.Ytconpnagoijacaa.P
open Go.RowKit Go.Proofs.YtconpnagoijacaaW.PrintWords Go.Proofs.YtconpnagoijacaaW.PrintLast Go.Proofs.YtconpnagoijacaaW.PrintMore
theorem o3 : Opens (Kd.int .i64) Try.prog 3 (fun x => (Lit.int .i64 x).wf = true) := Opens.int Try.underlying3 (by kernel_rfl)
theorem o9 : Opens Kd.string Try.prog 9 (fun x => x.size ≤ maxLen) := Opens.string Try.underlying9 (by kernel_rfl)
def ok40 (x : S40) : Prop := (Lit.int .i64 x.f0).wf = true ∧ (Lit.int .i64 x.f1).wf = true ∧ x.f2.size ≤ maxLen
theorem o40 : Opens k40 Try.prog 40 ok40 := by
  have h1 := Opens.struct (d := (Kd.pair (Kd.int .i64) (Kd.pair (Kd.int .i64) Kd.string))) (ok := fun a => (Lit.int .i64 a.1).wf = true ∧ (Lit.int .i64 a.2.1).wf = true ∧ a.2.2.size ≤ maxLen) Try.underlying40 (by kernel_rfl) (OpensFs.cons (ok2 := fun a : (Int) × (Int) × (ByteArray) => (Lit.int .i64 a.1).wf = true ∧ (Lit.int .i64 a.2.1).wf = true ∧ a.2.2.size ≤ maxLen) (ok' := fun a : (Int) × (ByteArray) => (Lit.int .i64 a.1).wf = true ∧ a.2.size ≤ maxLen) (by rfl) o3 (OpensFs.cons (ok2 := fun a : (Int) × (ByteArray) => (Lit.int .i64 a.1).wf = true ∧ a.2.size ≤ maxLen) (ok' := fun a : (ByteArray) => a.size ≤ maxLen) (by rfl) o3 (OpensFs.one (by rfl) o9) (fun v h1 h2 => ⟨h1, h2⟩)) (fun v h1 h2 => ⟨h1, h2⟩))
  exact Opens.mono (Opens.iso (fun a => ⟨a.1, a.2.1, a.2.2⟩) (fun _ => rfl) h1) (fun _ h => h)
theorem kc40 {w : World} {v : S40} {cs : List Value} (h : k40.K w v cs) : cs = [.int .i64 v.f0, .int .i64 v.f1, .string v.f2] := by
  have h0 : ((Kd.pair (Kd.int .i64) (Kd.pair (Kd.int .i64) Kd.string))).K w (v.f0, v.f1, v.f2) cs := h
  obtain ⟨c0, d0, rfl, g0, h1⟩ := h0
  obtain rfl := g0
  obtain ⟨c1, d1, rfl, g1, h2⟩ := h1
  obtain rfl := g1
  obtain rfl := h2
  exact rfl
def ok52 (x : S52) : Prop := (Lit.int .i64 x.f0).wf = true ∧ x.f1.size ≤ maxLen ∧ ok40 x.f2
theorem o52 : Opens k52 Try.prog 52 ok52 := by
  have h1 := Opens.struct (d := (Kd.pair (Kd.int .i64) (Kd.pair Kd.string k40))) (ok := fun a => (Lit.int .i64 a.1).wf = true ∧ a.2.1.size ≤ maxLen ∧ ok40 a.2.2) Try.underlying52 (by kernel_rfl) (OpensFs.cons (ok2 := fun a : (Int) × (ByteArray) × (S40) => (Lit.int .i64 a.1).wf = true ∧ a.2.1.size ≤ maxLen ∧ ok40 a.2.2) (ok' := fun a : (ByteArray) × (S40) => a.1.size ≤ maxLen ∧ ok40 a.2) (by rfl) o3 (OpensFs.cons (ok2 := fun a : (ByteArray) × (S40) => a.1.size ≤ maxLen ∧ ok40 a.2) (ok' := fun a : (S40) => ok40 a) (by rfl) o9 (OpensFs.one (by rfl) o40) (fun v h1 h2 => ⟨h1, h2⟩)) (fun v h1 h2 => ⟨h1, h2⟩))
  exact Opens.mono (Opens.iso (fun a => ⟨a.1, a.2.1, a.2.2⟩) (fun _ => rfl) h1) (fun _ h => h)
theorem kc52 {w : World} {v : S52} {cs : List Value} (h : k52.K w v cs) : cs = [.int .i64 v.f0, .string v.f1, .int .i64 v.f2.f0, .int .i64 v.f2.f1, .string v.f2.f2] := by
  have h0 : ((Kd.pair (Kd.int .i64) (Kd.pair Kd.string k40))).K w (v.f0, v.f1, v.f2) cs := h
  obtain ⟨c0, d0, rfl, g0, h1⟩ := h0
  obtain rfl := g0
  obtain ⟨c1, d1, rfl, g1, h2⟩ := h1
  obtain rfl := g1
  obtain rfl := kc40 h2
  exact rfl
def ok62 (x : S62) : Prop := x.f0.size ≤ maxLen ∧ ok40 x.f1
theorem o62 : Opens k62 Try.prog 62 ok62 := by
  have h1 := Opens.struct (d := (Kd.pair Kd.string k40)) (ok := fun a => a.1.size ≤ maxLen ∧ ok40 a.2) Try.underlying62 (by kernel_rfl) (OpensFs.cons (ok2 := fun a : (ByteArray) × (S40) => a.1.size ≤ maxLen ∧ ok40 a.2) (ok' := fun a : (S40) => ok40 a) (by rfl) o9 (OpensFs.one (by rfl) o40) (fun v h1 h2 => ⟨h1, h2⟩))
  exact Opens.mono (Opens.iso (fun a => ⟨a.1, a.2⟩) (fun _ => rfl) h1) (fun _ h => h)
theorem kc62 {w : World} {v : S62} {cs : List Value} (h : k62.K w v cs) : cs = [.string v.f0, .int .i64 v.f1.f0, .int .i64 v.f1.f1, .string v.f1.f2] := by
  have h0 : ((Kd.pair Kd.string k40)).K w (v.f0, v.f1) cs := h
  obtain ⟨c0, d0, rfl, g0, h1⟩ := h0
  obtain rfl := g0
  obtain rfl := kc40 h1
  exact rfl
end Go.Proofs.Ytconpnagoijacaa.P
end
section
namespace Go.Proofs.Ytconpnagoijacaa.P
open Go.RowKit Go.Proofs.YtconpnagoijacaaW.PrintWords Go.Proofs.YtconpnagoijacaaW.PrintLast Go.Proofs.YtconpnagoijacaaW.PrintMore
theorem getS_mem : ∀ (b : List S62) (s : ByteArray) (v : S40), getS b s = some v → ∃ x ∈ b, x.f1 = v
  | [], s, v, h => by simp [getS] at h
  | x :: b, s, v, h => by
    rw [getS_cons] at h
    by_cases e : x.f0 = s
    · rw [if_pos e, Option.some.injEq] at h
      exact ⟨x, List.mem_cons_self .., h⟩
    · rw [if_neg e] at h
      obtain ⟨y, hy, hv⟩ := getS_mem b s v h
      exact ⟨y, List.mem_cons_of_mem _ hy, hv⟩
theorem rest_all : ∀ (l : List S62) (s : Option ByteArray), restS s l = true → ∀ x ∈ l, bindS x = true
  | [], _, _, x, hx => by cases hx
  | y :: l, s, h, x, hx => by
    have h2 : bindS y = true ∧ restS (some y.f0) l = true := by
      cases s with
      | none => simpa [restS] using h
      | some s => simp only [restS, Bool.and_eq_true] at h; exact ⟨h.1, h.2.2⟩
    rcases List.mem_cons.1 hx with rfl | hx
    · exact h2.1
    · exact rest_all l _ h2.2 x hx
def subO (b : List S62) (o : S52) : S52 := if o.f0 = 1 then (match getS b o.f1 with | some v => ⟨2, ⟨#[]⟩, v⟩ | none => o) else o
def gotO (b : List S62) (o : S52) : Bool := !decide (o.f0 = 1) || (getS b o.f1).isSome
theorem sub_cases (b : List S62) (o : S52) : (o.f0 ≠ 1 ∧ subO b o = o ∧ gotO b o = true) ∨ (o.f0 = 1 ∧ getS b o.f1 = none ∧ subO b o = o ∧ gotO b o = false) ∨ (o.f0 = 1 ∧ ∃ v, getS b o.f1 = some v ∧ subO b o = ⟨2, ⟨#[]⟩, v⟩ ∧ gotO b o = true) := by
  by_cases h : o.f0 = 1
  · right
    unfold subO gotO
    rw [if_pos h, decide_eq_true h]
    generalize getS b o.f1 = g
    match g with
    | none => exact .inl ⟨h, rfl, rfl, rfl⟩
    | some v => exact .inr ⟨h, v, rfl, rfl, rfl⟩
  · left
    unfold subO gotO
    rw [if_neg h, decide_eq_false h]
    exact ⟨h, rfl, rfl⟩
theorem sub_push (b : List S62) (o : S52) : pushS (subO b o) = pushS o := by
  rcases sub_cases b o with ⟨_, e, _⟩ | ⟨_, _, e, _⟩ | ⟨h, v, _, e, _⟩
  · rw [e]
  · rw [e]
  · rw [e]; unfold pushS; rw [h]; rfl
theorem sub_op {b : List S62} (hb : bindsS b = true) {o : S52} (ho : opS o = true) : opS (subO b o) = true := by
  rcases sub_cases b o with ⟨_, e, _⟩ | ⟨_, _, e, _⟩ | ⟨_, v, hv, e, _⟩
  · rw [e]; exact ho
  · rw [e]; exact ho
  · rw [e]
    obtain ⟨x, hx, rfl⟩ := getS_mem b _ _ hv
    simp only [bindsS, Bool.and_eq_true] at hb
    have := rest_all b none (by rw [(rest_rising b).1]; exact hb.2) x hx
    simp only [bindS, Bool.and_eq_true] at this
    simp [opS, this.2]
theorem sub_deep {b : List S62} (hb : bindsS b = true) : ∀ (l : List S52) (n m : Int), deepS n l = some m → deepS n (l.map (subO b)) = some m
  | [], n, m, h => h
  | o :: l, n, m, h => by
    cases hp : pushS o with
    | true =>
      obtain ⟨ho, h2⟩ := deep_push h hp
      simp only [List.map_cons, deepS, sub_push, sub_op hb ho, hp, Bool.true_or, Bool.and_true, if_true]
      exact sub_deep hb l _ _ h2
    | false =>
      obtain ⟨ho, h2, h3⟩ := deep_reck h hp
      simp only [List.map_cons, deepS, sub_push, sub_op hb ho, hp, Bool.false_or, Bool.true_and, Bool.false_eq_true, if_false]
      rw [decide_eq_true h2, if_pos rfl]
      exact sub_deep hb l _ _ h3
theorem sub_eval (b : List S62) : ∀ (l : List S52) (st : List S40), l.all (gotO b) = true → evalS [] st (l.map (subO b)) = evalS b st l
  | [], st, _ => rfl
  | o :: l, st, h => by
    simp only [List.all_cons, Bool.and_eq_true] at h
    obtain ⟨hg, h⟩ := h
    simp only [List.map_cons, evalS, sub_push]
    cases hp : pushS o with
    | true =>
      have e : pushV [] (subO b o) = pushV b o := by
        rcases sub_cases b o with ⟨h1, e, _⟩ | ⟨_, _, _, e⟩ | ⟨h1, v, hv, e, _⟩
        · have h2 : o.f0 = 2 := by simp only [pushS, decide_eq_true_eq] at hp; omega
          rw [e]; unfold pushV; rw [if_pos h2, if_pos h2]
        · rw [e] at hg; cases hg
        · rw [e]; unfold pushV; rw [if_pos rfl, if_neg (by omega), hv]
      rw [e]
      simp only [if_true]
      split
      · exact sub_eval b l _ h
      · rfl
    | false =>
      have e : subO b o = o := by
        rcases sub_cases b o with ⟨_, e, _⟩ | ⟨_, _, e, _⟩ | ⟨h1, _⟩
        · exact e
        · exact e
        · simp [pushS, h1] at hp
      rw [e]
      simp only [Bool.false_eq_true, if_false]
      match st with
      | [] => rfl
      | [_] => rfl
      | y :: x :: st =>
        simp only
        split
        · exact sub_eval b l _ h
        · rfl
theorem lost_eval (b : List S62) : ∀ (l : List S52) (st : List S40) (m : Int), deepS st.length l = some m → (∃ o ∈ l, o.f0 = 1 ∧ getS b o.f1 = none) → (evalS b st l).2 ≠ 0
  | [], _, _, _, h => by obtain ⟨o, ho, _⟩ := h; cases ho
  | o :: l, st, m, hd, h => by
    have rest : pushS o = false ∨ (pushV b o).2 = 0 → ∃ o ∈ l, o.f0 = 1 ∧ getS b o.f1 = none := by
      intro hp
      obtain ⟨p, hpm, h1, h2⟩ := h
      rcases List.mem_cons.1 hpm with rfl | hpm
      · exfalso
        rcases hp with hp | hp
        · simp [pushS, h1] at hp
        · unfold pushV at hp
          rw [if_neg (by omega), h2] at hp
          exact absurd hp (by decide)
      · exact ⟨p, hpm, h1, h2⟩
    cases hp : pushS o with
    | true =>
      obtain ⟨_, h2⟩ := deep_push hd hp
      simp only [evalS, hp, if_true]
      by_cases he : (pushV b o).2 = 0
      · rw [if_pos he]
        exact lost_eval b l _ m (by simpa using h2) (rest (.inr he))
      · rw [if_neg he]; exact he
    | false =>
      obtain ⟨_, h2, h3⟩ := deep_reck hd hp
      match st, h2, h3 with
      | [], h2, _ => simp at h2
      | [_], h2, _ => simp at h2
      | y :: x :: st, h2, h3 =>
        simp only [evalS, hp, Bool.false_eq_true, if_false]
        by_cases he : (reckV o.f0 x y).2 = 0
        · rw [if_pos he]
          exact lost_eval b l _ m (by rw [← h3]; congr 1; simp only [List.length_cons]; omega) (rest (.inl hp))
        · rw [if_neg he]; exact he
theorem no_vars : ∀ (l : List S52) (out : List ByteArray), (∀ o ∈ l, o.f1 = ⟨#[]⟩) → varsS out l = out
  | [], out, _ => rfl
  | o :: l, out, h => by
    have h1 := h o (List.mem_cons_self ..)
    simp only [varsS]
    rw [decide_eq_true h1, Bool.true_or, if_pos rfl]
    exact no_vars l out fun o ho => h o (List.mem_cons_of_mem _ ho)
theorem put_beq (v w : S40) (h : v = w) : (v.f0 == w.f0 && (v.f1 == w.f1 && (v.f2.toList == w.f2.toList))) = true := by
  subst h
  simp
def mixO (b : List S62) (l : List S52) (i : Nat) : List S52 := (l.take i).map (subO b) ++ l.drop i
theorem mix_len (b : List S62) (l : List S52) (i : Nat) (h : i ≤ l.length) : (mixO b l i).length = l.length := by simp [mixO]; omega
theorem mix_eq (b : List S62) (l : List S52) (i : Nat) (h : i < l.length) : mixO b l i = (l.take i).map (subO b) ++ l[i] :: l.drop (i + 1) := by unfold mixO; rw [drop_at l i h]
theorem mix_rd (b : List S62) (l : List S52) (i : Nat) (h : i < l.length) : rd_T52 (mixO b l i) i = l[i] := by
  rw [rdO_nth _ _ (by rw [mix_len b l i (by omega)]; exact h)]
  simp only [mix_eq b l i h]
  rw [List.getElem_append_right (by simp; omega)]
  simp [Nat.min_eq_left (Nat.le_of_lt h)]
theorem mix_succ (b : List S62) (l : List S52) (i : Nat) (h : i < l.length) : mixO b l (i + 1) = (l.take i).map (subO b) ++ subO b l[i] :: l.drop (i + 1) := by
  unfold mixO
  rw [List.take_succ_eq_append_getElem h, List.map_append]
  simp
theorem mix_set (b : List S62) (l : List S52) (i : Nat) (h : i < l.length) (x : S52) (hx : x = subO b l[i]) : (mixO b l i).set i x = mixO b l (i + 1) := by
  rw [mix_succ b l i h, mix_eq b l i h, hx, List.set_append_right _ _ (by simp; omega)]
  have e : i - ((l.take i).map (subO b)).length = 0 := by simp; omega
  rw [e]; rfl
theorem got_succ (b : List S62) (l : List S52) (i : Nat) (h : i < l.length) : (l.take (i + 1)).all (gotO b) = ((l.take i).all (gotO b) && gotO b l[i]) := by
  rw [List.take_succ_eq_append_getElem h, List.all_append]; simp
theorem put_l0 (l : List S52) (b : List S62) (hl : l.length ≤ 1000000) (hb : b.length ≤ maxLen) (fin : Ev (fun k => constablelaw07_ExprPut.l0 k l b (l.map (subO b)) (l.all (gotO b)) l.length) true) :
    ∀ (d i : Nat), i + d = l.length → Ev (fun k => constablelaw07_ExprPut.l0 k l b (mixO b l i) ((l.take i).all (gotO b)) i) true := by
  intro d
  induction d with
  | zero =>
    intro i hi
    have e : i = l.length := by omega
    subst e
    have e2 : mixO b l l.length = l.map (subO b) := by unfold mixO; rw [List.take_length, List.drop_length, List.append_nil]
    rw [e2, List.take_length]
    exact fin
  | succ d ih =>
    intro i hi
    have hlt : i < l.length := by omega
    have hn := ih (i + 1) (by omega)
    have hs := mix_set b l i hlt _ rfl
    rw [got_succ b l i hlt] at hn
    refine evShift ?_
    simp only [constablelaw07_ExprPut.l0, mix_rd b l i hlt, mix_len b l i (by omega), wrap_succ hlt (by omega)]
    refine evPos (by omega) (evPos (by omega) ?_)
    rcases sub_cases b l[i] with ⟨h1, e, g⟩ | ⟨h1, hv, e, g⟩ | ⟨h1, v, hv, e, g⟩
    · refine evNeg h1 ?_
      rw [g, Bool.and_true] at hn
      rw [mix_succ b l i hlt, e, ← mix_eq b l i hlt] at hn
      exact hn
    · have hr := ref_Get_ev b l[i].f1 hb
      rw [hv] at hr
      rw [g, Bool.and_false, mix_succ b l i hlt, e, ← mix_eq b l i hlt] at hn
      refine evPos h1 (Ev.bind hr (evCond (fun _ => ?_) (fun _ => ?_)))
      · exact evNeg (by decide) hn
      · exact evNeg (by decide) hn
    · have hr := ref_Get_ev b l[i].f1 hb
      rw [hv] at hr
      rw [g, Bool.and_true] at hn
      rw [e] at hs
      refine evPos h1 (Ev.bind hr (evCond (fun ha => ?_) (fun ha => ?_)))
      · rw [← hs, ha] at hn
        exact evPos rfl hn
      · rw [← hs, ha] at hn
        exact evPos rfl hn
end Go.Proofs.Ytconpnagoijacaa.P
namespace Go.Proofs.Ytconpnagoijacaa.Pure
open Go.RowKit Go.Proofs.Ytconpnagoijacaa.P Go.Proofs.YtconpnagoijacaaW.PrintWords Go.Proofs.YtconpnagoijacaaW.PrintLast Go.Proofs.YtconpnagoijacaaW.PrintMore
theorem ExprPut (l : List S52) (b : List S62) (hz0 : l.length ≤ maxLen ∧ l.length * 56 ≤ 140737488351232) (_ho0 : ∀ v ∈ l, ok52 v) (hz1 : b.length ≤ maxLen ∧ b.length * 48 ≤ 140737488351232) (_ho1 : ∀ v ∈ b, ok62 v) :
    ∃ k, constablelaw07_ExprPut.f k l b = some true := by
  refine Ev.rounds (r := true) ?_
  have hw := wakesEnd wakes07_ev
  unfold constablelaw07_ExprPut.f
  have hj : Ev (fun k => constablelaw07_ExprPut.j0 k l b true) true := by
    refine evShift ?_
    simp only [constablelaw07_ExprPut.j0, if_true]
    exact evSome rfl
  refine Ev.bind (heavy07_ev l) (evCond (fun _ => hj) (fun h1 => Ev.bind (heavy05_ev b) (evCond (fun _ => hj) (fun h2 => ?_))))
  obtain ⟨hl, ho⟩ := light_ops h1
  obtain ⟨hbl, hbo⟩ := light_binds h2
  refine Ev.bind (ref_Expr_ev l ho) (evCond (fun hx => Ev.bind (ref_Binds_ev b hbo) ?_) (fun _ => hj))
  cases hb : bindsS b with
  | false => exact hj
  | true =>
    obtain ⟨x1, x2, x3⟩ := expr_len hx
    refine evShift ?_
    simp only [constablelaw07_ExprPut.j0, Bool.not_true, Bool.false_eq_true, if_false, twinOps_eq l (by omega), Option.bind_some]
    have hd := sub_deep hb l 0 1 x3
    have he : exprS (l.map (subO b)) = true := expr_mk (by simpa using x1) (by simpa using x2) hd
    have hso : OpsOk (l.map (subO b)) := by
      intro o hm
      obtain ⟨p, hp, rfl⟩ := List.mem_map.1 hm
      rcases sub_cases b p with ⟨_, e, _⟩ | ⟨_, _, e, _⟩ | ⟨_, v, hv, e, _⟩
      · rw [e]; exact ho p hp
      · rw [e]; exact ho p hp
      · rw [e]
        obtain ⟨x, hx, rfl⟩ := getS_mem b _ _ hv
        exact ⟨Nat.zero_le _, (hbo x hx).2⟩
    have fin : Ev (fun k => constablelaw07_ExprPut.l0 k l b (l.map (subO b)) (l.all (gotO b)) l.length) true := by
      refine evShift ?_
      simp only [constablelaw07_ExprPut.l0, List.length_map]
      refine evNeg (by omega) (Ev.bind (expr_Eval_ev l b ho hz0.1 hbo hz1.1) (Ev.bind (expr_Eval_ev _ [] hso (by simpa using hz0.1) (by intro x hx; cases hx) (by simp)) ?_))
      have e1 : evalE l b = evalS b [] l := by unfold evalE; rw [hx, hb]; rfl
      have e2 : evalE (l.map (subO b)) [] = evalS [] [] (l.map (subO b)) := by unfold evalE; rw [he]; rfl
      rw [e1, e2]
      refine evCond (fun ha => ?_) (fun ha => ?_)
      · rw [sub_eval b l [] ha]
        refine evPos rfl (evPos (put_beq _ _ rfl) (Ev.bind (expr_Vars_ev _ (by simp; omega)) ?_))
        rw [no_vars _ _ (fun o hm => by
          obtain ⟨p, hp, rfl⟩ := List.mem_map.1 hm
          have hg := List.all_eq_true.1 ha p hp
          have hop := deep_ops l 0 1 x3 p hp
          rcases sub_cases b p with ⟨h, e, _⟩ | ⟨_, _, _, e⟩ | ⟨_, v, _, e, _⟩
          · rw [e]
            unfold opS at hop
            rw [if_neg h] at hop
            by_cases h2 : p.f0 = 2
            · rw [if_pos h2] at hop
              simp only [Bool.and_eq_true, decide_eq_true_eq] at hop
              exact hop.1
            · rw [if_neg h2] at hop
              simp only [Bool.and_eq_true, decide_eq_true_eq] at hop
              exact hop.2.1
          · rw [e] at hg; cases hg
          · rw [e])]
        exact evPos rfl hw
      · have hlost : ∃ o ∈ l, o.f0 = 1 ∧ getS b o.f1 = none ∧ subO b o = o := by
          have : ¬ ∀ o ∈ l, gotO b o = true := fun h => by rw [List.all_eq_true.2 h] at ha; cases ha
          by_cases h : ∃ o ∈ l, o.f0 = 1 ∧ getS b o.f1 = none ∧ subO b o = o
          · exact h
          · refine absurd (fun o hm => ?_) this
            rcases sub_cases b o with ⟨_, _, g⟩ | ⟨h1, hv, e, _⟩ | ⟨_, _, _, _, g⟩
            · exact g
            · exact absurd ⟨o, hm, h1, hv, e⟩ h
            · exact g
        obtain ⟨o, hm, h1, hv, e⟩ := hlost
        refine evNeg (lost_eval b l [] 1 x3 ⟨o, hm, h1, hv⟩) (evNeg (lost_eval [] _ [] 1 hd ⟨o, ?_, h1, rfl⟩) hw)
        exact List.mem_map.2 ⟨o, hm, e⟩
    have := put_l0 l b (by omega) hz1.1 fin l.length 0 (by omega)
    simpa [mixO] using this
end Go.Proofs.Ytconpnagoijacaa.Pure
end
