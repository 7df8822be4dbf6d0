/- Part 4 of the proof of GuardNumbers: words, contracts of functions of the program (what a call answers), and what the answers say. -/
import Derived.Test.YtaopajmpifenoaaVWords
import Derived.Test.YtaopajmpifenoaaVLast
import Derived.Test.YtaopajmpifenoaaVApart
import Derived.Test.YtaopajmpifenoaaVArr
import Derived.Test.YtaopajmpifenoaaVFoot
import Derived.Test.YtaopajmpifenoaaVKept
import Derived.Test.YtaopajmpifenoaaVShare
import Derived.Test.YtaopajmpifenoaaVZeros
import Derived.Test.YtaopajmpifenoaaVN
import Derived.Test.YtaopajmpifenoaaVFootNe
import Derived.Test.YtaopajmpifenoaaVAt
import Derived.Test.YtaopajmpifenoaaVEqStruct
import Derived.Test.YtaopajmpifenoaaVTab
import Derived.Test.YtaopajmpifenoaaVFour
import Derived.Test.YtaopajmpifenoaaVGuard
import Derived.Test.YtaopajmpifenoaaVInv
import Derived.Test.YtaopajmpifenoaaVInvWords
import Derived.Test.YtaopajmpifenoaaVQPut
import Derived.Test.YtaopajmpifenoaaVNEv
import Derived.Test.YtaopajmpifenoaaVMore
import Derived.Test.YtaopajmpifenoaaVRepsOne
import Derived.Test.YtaopajmpifenoaaVSized
import Derived.Test.YtaopajmpifenoaaCGuardNumbers0
import Derived.Test.YtaopajmpifenoaaCGuardNumbers1
import Derived.Test.YtaopajmpifenoaaCGuardNumbers2
section
namespace Go.Proofs.Ytaopajmpifenoaa.P
open Go.RowKit Go.Proofs.YtaopajmpifenoaaW.PrintWords Go.Proofs.YtaopajmpifenoaaW.PrintLast Go.Proofs.YtaopajmpifenoaaW.PrintMore
theorem cb_zero : ∀ a b : List UInt8, Lib.compareBytes a b = 0 ↔ a = b
  | [], [] => by simp [Lib.compareBytes]
  | [], _ :: _ => by simp [Lib.compareBytes]
  | _ :: _, [] => by simp [Lib.compareBytes]
  | x :: a, y :: b => by
    have ih := cb_zero a b
    simp only [Lib.compareBytes, List.cons.injEq]
    by_cases h : x < y
    · rw [if_pos h]
      refine ⟨fun h => absurd h (by decide), fun e => ?_⟩
      rw [e.1] at h; exact absurd h (UInt8.lt_irrefl y)
    · rw [if_neg h]
      by_cases h2 : y < x
      · rw [if_pos h2]
        refine ⟨fun h => absurd h (by decide), fun e => ?_⟩
        rw [e.1] at h2; exact absurd h2 (UInt8.lt_irrefl y)
      · rw [if_neg h2, ih]
        have : x = y := by
          rw [UInt8.lt_iff_toNat_lt] at h h2
          exact UInt8.toNat_inj.1 (by omega)
        exact ⟨fun e => ⟨this, e⟩, fun e => e.2⟩
theorem cb_less_iff : ∀ a b : List UInt8, Op.bytesLess a b = true ↔ Lib.compareBytes a b < 0
  | [], [] => by simp [Op.bytesLess, Lib.compareBytes]
  | [], _ :: _ => by simp [Op.bytesLess, Lib.compareBytes]
  | _ :: _, [] => by simp [Op.bytesLess, Lib.compareBytes]
  | x :: a, y :: b => by
    have ih := cb_less_iff a b
    simp only [Op.bytesLess, Lib.compareBytes]
    by_cases h : x < y
    · rw [if_pos h, decide_eq_true h]; simp
    · rw [if_neg h, decide_eq_false h, Bool.false_or]
      by_cases h2 : y < x
      · rw [if_pos h2]
        have e : (x == y) = false := beq_eq_false_iff_ne.mpr (fun e => by rw [e] at h2; exact absurd h2 (UInt8.lt_irrefl y))
        rw [e]; simp
      · rw [if_neg h2]
        have : x = y := by
          rw [UInt8.lt_iff_toNat_lt] at h h2
          exact UInt8.toNat_inj.1 (by omega)
        subst this
        rw [beq_self_eq_true, Bool.true_and]; exact ih
theorem cb_less (a b : List UInt8) : Op.bytesLess a b = decide (Lib.compareBytes a b < 0) := by
  rw [Bool.eq_iff_iff, cb_less_iff, decide_eq_true_eq]
theorem cb_swap : ∀ a b : List UInt8, Lib.compareBytes b a = - Lib.compareBytes a b
  | [], [] => rfl
  | [], _ :: _ => rfl
  | _ :: _, [] => rfl
  | x :: a, y :: b => by
    have ih := cb_swap a b
    simp only [Lib.compareBytes]
    by_cases h : x < y
    · have h2 : ¬ y < x := by rw [UInt8.lt_iff_toNat_lt] at h ⊢; omega
      rw [if_neg h2, if_pos h, if_pos h]; rfl
    · by_cases h2 : y < x
      · rw [if_pos h2, if_neg h, if_pos h2]
      · rw [if_neg h2, if_neg h, if_neg h, if_neg h2]; exact ih
def cmpI (a b : Int) : Int := if a < b then -1 else if a > b then 1 else 0
def cmpB (s t : ByteArray) : Int := Lib.compareBytes s.data.toList t.data.toList
def cmpV (v w : S23) : Int := if cmpI v.f0 w.f0 = 0 then (if cmpI v.f1 w.f1 = 0 then cmpB v.f2 w.f2 else cmpI v.f1 w.f1) else cmpI v.f0 w.f0
theorem cmpI_zero (a b : Int) : cmpI a b = 0 ↔ a = b := by unfold cmpI; split <;> (try split) <;> omega
theorem cmpI_swap (a b : Int) : cmpI b a = - cmpI a b := by unfold cmpI; split <;> (try split) <;> (try split) <;> (try split) <;> omega
theorem cmpB_zero (s t : ByteArray) : cmpB s t = 0 ↔ s = t := by
  unfold cmpB
  rw [cb_zero]
  exact ⟨fun h => ByteArray.ext (Array.toList_inj.1 h), fun h => by rw [h]⟩
theorem cmpV_zero (v w : S23) : cmpV v w = 0 ↔ v = w := by
  obtain ⟨a, b, c⟩ := v
  obtain ⟨x, y, z⟩ := w
  have h1 := cmpI_zero a x
  have h2 := cmpI_zero b y
  have h3 := cmpB_zero c z
  unfold cmpV
  simp only [S23.mk.injEq]
  by_cases e1 : cmpI a x = 0
  · rw [if_pos e1]
    by_cases e2 : cmpI b y = 0
    · rw [if_pos e2, h3]; exact ⟨fun h => ⟨h1.1 e1, h2.1 e2, h⟩, fun h => h.2.2⟩
    · rw [if_neg e2]; exact ⟨fun h => absurd h e2, fun h => absurd (h2.2 h.2.1) e2⟩
  · rw [if_neg e1]; exact ⟨fun h => absurd h e1, fun h => absurd (h1.2 h.1) e1⟩
theorem cmpV_swap (v w : S23) : cmpV w v = - cmpV v w := by
  unfold cmpV cmpB
  rw [cmpI_swap v.f0 w.f0, cmpI_swap v.f1 w.f1, cb_swap v.f2.data.toList w.f2.data.toList]
  split <;> split <;> (try split) <;> (try split) <;> omega
theorem cmp_Compare_eq (a b : Int) : cmp_Compare_int.f a b = some (cmpI a b) := by
  simp only [cmp_Compare_int.f, cmp_isNaN_int.f, Option.bind_some, bne_self_eq_false, Bool.false_eq_true, if_false, cmpI]
  split
  · rfl
  · split <;> rfl
theorem cmp_Or_ev (x y z : Int) : Ev (fun k => cmp_Or_int.f k [x, y, z]) (if x = 0 then (if y = 0 then z else y) else x) := by
  have l3 : (([x, y, z] : List Int).length : Int) = 3 := rfl
  have r0 : rd [x, y, z] 0 = x := rfl
  have r1 : rd [x, y, z] 1 = y := rfl
  have r2 : rd [x, y, z] 2 = z := rfl
  have w0 : wrap64 (0 + 1) = 1 := by unfold wrap64; omega
  have w1 : wrap64 (1 + 1) = 2 := by unfold wrap64; omega
  have w2 : wrap64 (2 + 1) = 3 := by unfold wrap64; omega
  unfold cmp_Or_int.f
  rw [l3]
  refine evShift ?_
  simp only [cmp_Or_int.l0, l3, r0, w0]
  refine evPos (by decide) (evPos (by decide) (evPos (by decide) (evIf (fun h => ?_) (fun h => evSome (by rw [if_neg h])))))
  rw [if_pos h]
  refine evShift ?_
  simp only [cmp_Or_int.l0, l3, r1, w1]
  refine evPos (by decide) (evPos (by decide) (evPos (by decide) (evIf (fun h => ?_) (fun h => evSome (by rw [if_neg h])))))
  rw [if_pos h]
  refine evShift ?_
  simp only [cmp_Or_int.l0, l3, r2, w2]
  refine evPos (by decide) (evPos (by decide) (evPos (by decide) (evIf (fun h => ?_) (fun h => evSome rfl))))
  refine evShift ?_
  simp only [cmp_Or_int.l0]
  exact evNeg (by decide) (evSome h.symm)
theorem val_Compare_ev (v w : S23) : Ev (fun k => val_Compare.f k v.f0 v.f1 v.f2 w.f0 w.f1 w.f2) (cmpV v w) := by
  unfold val_Compare.f
  simp only [cmp_Compare_eq, strings_Compare.f, Option.bind_some]
  exact Ev.bind (cmp_Or_ev _ _ _) (evSome rfl)
theorem guard_right_eq (a : Int) : guard_right.f a = some (decide (1 ≤ a ∧ a ≤ 4)) := by
  unfold guard_right.f
  by_cases h : a ≥ 1
  · rw [if_pos h]; congr 1; rw [Bool.eq_iff_iff]; simp; omega
  · rw [if_neg h]; congr 1; rw [Bool.eq_iff_iff]; simp; omega
def holdsS (how : Int) (v w : S23) : Bool × Int :=
  if (decide (1 ≤ how ∧ how ≤ 4) && (valS v.f0 v.f1 v.f2 && valS w.f0 w.f1 w.f2)) = true then
    (if (how = 3 ∨ how = 4) ∧ v.f0 ≠ w.f0 then (false, 3) else (if how = 1 then cmpV v w == 0 else if how = 2 then cmpV v w != 0 else if how = 3 then decide (cmpV v w < 0) else decide (cmpV v w ≤ 0), 0))
  else (false, 1)
theorem guard_Holds_ev (how : Int) (v w : S23) (hv : v.f2.size ≤ maxLen) (hw : w.f2.size ≤ maxLen) : Ev (fun k => guard_Holds.f k how v.f0 v.f1 v.f2 w.f0 w.f1 w.f2) (holdsS how v w) := by
  unfold guard_Holds.f
  rw [guard_right_eq]
  simp only [Option.bind_some]
  have bad : holdsS how v w = (false, 1) → Ev (fun k => guard_Holds.j0 k how true v.f0 v.f1 v.f2 w.f0 w.f1 w.f2) (holdsS how v w) := by
    intro h
    rw [h]
    refine evShift ?_
    simp only [guard_Holds.j0, if_true]
    exact evSome rfl
  refine evCond (fun h1 => Ev.bind (val_Check_ev _ _ _ hv) ?_) (fun h1 => bad (by unfold holdsS; rw [h1]; rfl))
  cases h2 : valS v.f0 v.f1 v.f2 with
  | false => exact evNeg (by decide) (bad (by unfold holdsS; rw [h2, Bool.false_and, Bool.and_false]; rfl))
  | true =>
    refine evPos rfl (Ev.bind (val_Check_ev _ _ _ hw) ?_)
    cases h3 : valS w.f0 w.f1 w.f2 with
    | false => exact bad (by unfold holdsS; rw [h3, Bool.and_false, Bool.and_false]; rfl)
    | true =>
      have hh : holdsS how v w = (if (how = 3 ∨ how = 4) ∧ v.f0 ≠ w.f0 then (false, 3) else (if how = 1 then cmpV v w == 0 else if how = 2 then cmpV v w != 0 else if how = 3 then decide (cmpV v w < 0) else decide (cmpV v w ≤ 0), 0)) := by
        unfold holdsS; rw [h1, h2, h3]; rfl
      rw [hh]
      have j1 : Ev (fun k => guard_Holds.j1 k how v.f0 v.f1 v.f2 w.f0 w.f1 w.f2) (if how = 1 then cmpV v w == 0 else if how = 2 then cmpV v w != 0 else if how = 3 then decide (cmpV v w < 0) else decide (cmpV v w ≤ 0), 0) := by
        refine evShift ?_
        simp only [guard_Holds.j1]
        refine Ev.bind (val_Compare_ev v w) ?_
        refine evIf (fun h => evSome (by rw [if_pos h])) (fun h => ?_)
        rw [if_neg h]
        refine evIf (fun h => evSome (by rw [if_pos h])) (fun h => ?_)
        rw [if_neg h]
        refine evIf (fun h => evSome (by rw [if_pos h])) (fun h => evSome (by rw [if_neg h]))
      show Ev (fun k => guard_Holds.j0 k how false v.f0 v.f1 v.f2 w.f0 w.f1 w.f2) _
      refine evShift ?_
      simp only [guard_Holds.j0, Bool.false_eq_true, if_false]
      by_cases e : v.f0 = w.f0
      · rw [if_neg (fun h => h.2 e)]
        exact evIf (fun _ => evPos e j1) (fun _ => evIf (fun _ => evPos e j1) (fun _ => j1))
      · refine evIf (fun h => ?_) (fun h => evIf (fun h4 => ?_) (fun h4 => ?_))
        · rw [if_pos ⟨.inl h, e⟩]; exact evNeg e (evSome rfl)
        · rw [if_pos ⟨.inr h4, e⟩]; exact evNeg e (evSome rfl)
        · rw [if_neg (fun hx => by rcases hx.1 with hx | hx <;> contradiction)]; exact j1
end Go.Proofs.Ytaopajmpifenoaa.P
end
section
namespace Go.Proofs.Ytaopajmpifenoaa.P
open Go.RowKit Go.Proofs.YtaopajmpifenoaaW.PrintWords Go.Proofs.YtaopajmpifenoaaW.PrintLast Go.Proofs.YtaopajmpifenoaaW.PrintMore
theorem wakes08_ev : Ev (fun k => constablelaw08_wakes.f k) true := Ev.of (constablelaw08_wakes.mono) (k := 60) (by decide +kernel)
theorem wakesEnd {g : Nat → Option Bool} (h : Ev g true) : Ev (fun k => (g k).bind fun t => some t) true := Ev.bind h (evSome rfl)
end Go.Proofs.Ytaopajmpifenoaa.P
end
section
namespace Go.Proofs.Ytaopajmpifenoaa.P
open Go.RowKit Go.Proofs.YtaopajmpifenoaaW.PrintWords Go.Proofs.YtaopajmpifenoaaW.PrintLast Go.Proofs.YtaopajmpifenoaaW.PrintMore
def vI (a : Int) : S23 := ⟨1, a, ⟨#[]⟩⟩
def vS (s : ByteArray) : S23 := ⟨3, 0, s⟩
theorem vI_ok {a : Int} (h : InB a) : valS 1 a ⟨#[]⟩ = true := by simp [valS, h]
theorem vS_ok {s : ByteArray} (hp : (bytesOf s).all plainI = true) (hs : s.size ≤ 10) : valS 3 0 s = true := by
  unfold valS
  rw [if_neg (by decide), if_neg (by decide), if_pos rfl, hp, decide_eq_true (show s.size ≤ 60 by omega)]
  rfl
theorem holds_plain {how : Int} {v w : S23} (h1 : 1 ≤ how) (h2 : how ≤ 4) (hv : valS v.f0 v.f1 v.f2 = true) (hw : valS w.f0 w.f1 w.f2 = true) (hk : v.f0 = w.f0) :
    holdsS how v w = (if how = 1 then cmpV v w == 0 else if how = 2 then cmpV v w != 0 else if how = 3 then decide (cmpV v w < 0) else decide (cmpV v w ≤ 0), 0) := by
  unfold holdsS
  rw [hv, hw, decide_eq_true (show 1 ≤ how ∧ how ≤ 4 from ⟨h1, h2⟩)]
  rw [if_pos (by rfl), if_neg (fun h => h.2 hk)]
theorem cmpB_nil : cmpB ⟨#[]⟩ ⟨#[]⟩ = 0 := (cmpB_zero _ _).2 rfl
theorem cmp_vI (a b : Int) : cmpV (vI a) (vI b) = cmpI a b := by
  show (if cmpI 1 1 = 0 then (if cmpI a b = 0 then cmpB ⟨#[]⟩ ⟨#[]⟩ else cmpI a b) else cmpI 1 1) = _
  rw [if_pos ((cmpI_zero 1 1).2 rfl), cmpB_nil]
  split
  · exact (‹cmpI a b = 0›).symm
  · rfl
theorem cmp_vS (s t : ByteArray) : cmpV (vS s) (vS t) = cmpB s t := by
  show (if cmpI 3 3 = 0 then (if cmpI 0 0 = 0 then cmpB s t else cmpI 0 0) else cmpI 3 3) = _
  rw [if_pos ((cmpI_zero 3 3).2 rfl), if_pos ((cmpI_zero 0 0).2 rfl)]
def four (c : Int) : List Bool := [false, c == 0, c != 0, decide (c < 0), decide (c ≤ 0)]
theorem four_at (c : Int) {how : Int} (h1 : 1 ≤ how) (h2 : how ≤ 4) : (if how = 1 then c == 0 else if how = 2 then c != 0 else if how = 3 then decide (c < 0) else decide (c ≤ 0)) = rdOf false (four c) how := by
  have : how = 1 ∨ how = 2 ∨ how = 3 ∨ how = 4 := by omega
  rcases this with rfl | rfl | rfl | rfl <;> rfl
theorem four_ints (a b : Int) : ([false, (a == b), (a != b), decide (a < b), decide (a ≤ b)] : List Bool) = four (cmpI a b) := by
  have e1 : (a == b) = (cmpI a b == 0) := by rw [Bool.eq_iff_iff, beq_iff_eq, beq_iff_eq, cmpI_zero]
  have e3 : decide (a < b) = decide (cmpI a b < 0) := by rw [decide_eq_decide]; unfold cmpI; split <;> (try split) <;> omega
  have e4 : decide (a ≤ b) = decide (cmpI a b ≤ 0) := by rw [decide_eq_decide]; unfold cmpI; split <;> (try split) <;> omega
  unfold four bne
  rw [e1, e3, e4]
theorem four_strs (s t : ByteArray) : ([false, (s.toList == t.toList), (s.toList != t.toList), (Op.bytesLess s.toList t.toList), !(Op.bytesLess t.toList s.toList)] : List Bool) = four (cmpB s t) := by
  have e1 : (s.toList == t.toList) = (cmpB s t == 0) := by rw [Bool.eq_iff_iff, beq_iff_eq, beq_iff_eq, cmpB_zero, tl_inj]
  have e3 : Op.bytesLess s.toList t.toList = decide (cmpB s t < 0) := by rw [cb_less, tl_data, tl_data]; rfl
  have e4 : (!Op.bytesLess t.toList s.toList) = decide (cmpB s t ≤ 0) := by
    rw [cb_less, tl_data, tl_data, cb_swap s.data.toList t.data.toList]
    show (!decide (-cmpB s t < 0)) = _
    rw [← decide_not, decide_eq_decide]
    omega
  unfold four bne
  rw [e1, e3, e4]
theorem nb (b : Bool) : ¬ (b != b) = true := by cases b <;> decide
theorem gn_round {a b : Int} {s t : ByteArray} (ha : InB a) (hb : InB b) (hs : vS s = vS s ∧ s.size ≤ 10 ∧ (bytesOf s).all plainI = true) (ht : t.size ≤ 10 ∧ (bytesOf t).all plainI = true) {how : Int} (h1 : 1 ≤ how) (h2 : how ≤ 4)
    (k : Ev (fun k => constablelaw08_GuardNumbers.l2 k (four (cmpI a b)) (four (cmpB s t)) (how + 1) 1 a ⟨#[]⟩ 1 b ⟨#[]⟩ 3 0 s 3 0 t) true) :
    Ev (fun k => constablelaw08_GuardNumbers.l2 k (four (cmpI a b)) (four (cmpB s t)) how 1 a ⟨#[]⟩ 1 b ⟨#[]⟩ 3 0 s 3 0 t) true := by
  have g1 := guard_Holds_ev how (vI a) (vI b) (by unfold maxLen; exact Nat.zero_le _) (by unfold maxLen; exact Nat.zero_le _)
  have g2 := guard_Holds_ev how (vS s) (vS t) (by show s.size ≤ _; unfold maxLen; omega) (by show t.size ≤ _; unfold maxLen; omega)
  rw [holds_plain (v := vI a) (w := vI b) h1 h2 (vI_ok ha) (vI_ok hb) rfl, cmp_vI, four_at _ h1 h2] at g1
  rw [holds_plain (v := vS s) (w := vS t) h1 h2 (vS_ok hs.2.2 hs.2.1) (vS_ok ht.2 ht.1) rfl, cmp_vS, four_at _ h1 h2] at g2
  have hw : wrap64 (how + 1) = how + 1 := by unfold wrap64; omega
  refine evShift ?_
  simp only [constablelaw08_GuardNumbers.l2, hw]
  refine evPos h2 (Ev.bind g1 (Ev.bind g2 (evPos (by trivial) (evPos (by trivial) (evPos (by omega) (evPos ?_ (evNeg (nb _) (evPos ?_ (evNeg (nb _) k)))))))))
  · show how < ((5 : Nat) : Int); omega
  · show how < ((5 : Nat) : Int); omega
theorem gn_end {a b : Int} {s t : ByteArray} (ha : InB a) (hs : s.size ≤ 10 ∧ (bytesOf s).all plainI = true) (A B : List Bool) :
    Ev (fun k => constablelaw08_GuardNumbers.l2 k A B 5 1 a ⟨#[]⟩ 1 b ⟨#[]⟩ 3 0 s 3 0 t) true := by
  have z : (vI a).f2.size ≤ maxLen := by unfold maxLen; exact Nat.zero_le _
  have z2 : (vI b).f2.size ≤ maxLen := by unfold maxLen; exact Nat.zero_le _
  have zs : (vS s).f2.size ≤ maxLen := by show s.size ≤ _; unfold maxLen; omega
  have g1 := guard_Holds_ev 5 (vI a) (vI b) z z2
  have g2 := guard_Holds_ev 3 (vI a) (vS s) z zs
  have g3 := guard_Holds_ev 2 (vI a) (vS s) z zs
  have e1 : holdsS 5 (vI a) (vI b) = (false, 1) := rfl
  have va : valS (vI a).f0 (vI a).f1 (vI a).f2 = true := vI_ok ha
  have vs : valS (vS s).f0 (vS s).f1 (vS s).f2 = true := vS_ok hs.2 hs.1
  have e2 : holdsS 3 (vI a) (vS s) = (false, 3) := by unfold holdsS; rw [va, vs]; rfl
  have e3 : holdsS 2 (vI a) (vS s) = (true, 0) := by
    have : cmpV (vI a) (vS s) ≠ 0 := fun h => by have := congrArg S23.f0 ((cmpV_zero _ _).1 h); exact absurd this (show ¬ (1 : Int) = 3 by decide)
    unfold holdsS
    rw [va, vs]
    show ((cmpV (vI a) (vS s) != 0), (0 : Int)) = _
    rw [bne_iff_ne.2 this]
  rw [e1] at g1; rw [e2] at g2; rw [e3] at g3
  refine evShift ?_
  simp only [constablelaw08_GuardNumbers.l2]
  exact evNeg (by decide) (Ev.bind g1 (Ev.bind g2 (Ev.bind g3 (evPos (by trivial) (evPos (by trivial) (evPos (by trivial) (evPos (by trivial) (wakesEnd wakes08_ev))))))))
theorem gn_l1 {a b : Int} {s t : ByteArray} (ht : t.size ≤ 10) {L : Nat → Option Bool}
    (hL : ∀ k i, constablelaw08_GuardNumbers.l1 (k + 1) a b s t i = if i < (t.size : Int) then (if 0 ≤ i then (if bt t i < 32 then some true else (if bt t i > 126 then some true else constablelaw08_GuardNumbers.l1 k a b s t (wrap64 (i + 1)))) else none) else L k) :
    ∀ (d i : Nat), i + d = t.size → (((bytesOf t).drop i).all plainI = true → Ev L true) → Ev (fun k => constablelaw08_GuardNumbers.l1 k a b s t i) true := by
  intro d
  induction d with
  | zero => exact fun i e h => evShift (Ev.congr (fun k => (hL k i).trans (if_neg (by omega))) (h (by rw [show i = t.size by omega, drop_end]; rfl)))
  | succ d ih =>
    intro i e h
    have hi : i < t.size := by omega
    refine evShift (Ev.congr (fun k => hL k i) (evPos (by omega) (evPos (by omega) (evIf (fun _ => evSome rfl) (fun h1 => evIf (fun _ => evSome rfl) (fun h2 => ?_))))))
    rw [wrap_succ hi (by omega)]
    exact ih (i + 1) (by omega) (fun hp => h (by rw [all_drop hi, hp, Bool.and_true]; exact decide_eq_true ⟨by omega, by omega⟩))
theorem gn_l0 {a b : Int} {s t : ByteArray} (hs : s.size ≤ 10) {L : Nat → Option Bool}
    (hL : ∀ k i, constablelaw08_GuardNumbers.l0 (k + 1) a b s t i = if i < (s.size : Int) then (if 0 ≤ i then (if bt s i < 32 then some true else (if bt s i > 126 then some true else constablelaw08_GuardNumbers.l0 k a b s t (wrap64 (i + 1)))) else none) else L k) :
    ∀ (d i : Nat), i + d = s.size → (((bytesOf s).drop i).all plainI = true → Ev L true) → Ev (fun k => constablelaw08_GuardNumbers.l0 k a b s t i) true := by
  intro d
  induction d with
  | zero => exact fun i e h => evShift (Ev.congr (fun k => (hL k i).trans (if_neg (by omega))) (h (by rw [show i = s.size by omega, drop_end]; rfl)))
  | succ d ih =>
    intro i e h
    have hi : i < s.size := by omega
    refine evShift (Ev.congr (fun k => hL k i) (evPos (by omega) (evPos (by omega) (evIf (fun _ => evSome rfl) (fun h1 => evIf (fun _ => evSome rfl) (fun h2 => ?_))))))
    rw [wrap_succ hi (by omega)]
    exact ih (i + 1) (by omega) (fun hp => h (by rw [all_drop hi, hp, Bool.and_true]; exact decide_eq_true ⟨by omega, by omega⟩))
end Go.Proofs.Ytaopajmpifenoaa.P
namespace Go.Proofs.Ytaopajmpifenoaa.Pure
open Go.RowKit Go.Proofs.Ytaopajmpifenoaa.P Go.Proofs.YtaopajmpifenoaaW.PrintWords Go.Proofs.YtaopajmpifenoaaW.PrintLast Go.Proofs.YtaopajmpifenoaaW.PrintMore
theorem GuardNumbers : constablelaw08_GuardNumbers.Pure := by
  intro a b s t _ _ _ _
  refine Ev.rounds (r := true) ?_
  unfold constablelaw08_GuardNumbers.f
  have hj : Ev (fun k => constablelaw08_GuardNumbers.j0 k a b s t true) true := by
    refine evShift ?_
    simp only [constablelaw08_GuardNumbers.j0, if_true]
    exact evSome rfl
  refine evIf (fun _ => hj) (fun h1 => evIf (fun _ => hj) (fun h2 => evIf (fun _ => hj) (fun h3 => evIf (fun _ => hj) (fun h4 => evIf (fun _ => hj) (fun h5 => ?_)))))
  by_cases h6 : (t.size : Int) > 10
  · rw [decide_eq_true h6]; exact hj
  rw [decide_eq_false h6]
  have ha : InB a := ⟨by omega, by omega⟩
  have hb : InB b := ⟨by omega, by omega⟩
  have hs : s.size ≤ 10 := by omega
  have ht : t.size ≤ 10 := by omega
  refine evShift ?_
  simp only [constablelaw08_GuardNumbers.j0, Bool.false_eq_true, if_false]
  refine gn_l0 hs (fun _ _ => rfl) s.size 0 (by omega) (fun ps => ?_)
  refine gn_l1 ht (fun _ _ => rfl) t.size 0 (by omega) (fun pt => ?_)
  rw [four_ints, four_strs]
  have ps' : (bytesOf s).all plainI = true := ps
  have pt' : (bytesOf t).all plainI = true := pt
  exact gn_round ha hb ⟨rfl, hs, ps'⟩ ⟨ht, pt'⟩ (by decide) (by decide) (gn_round ha hb ⟨rfl, hs, ps'⟩ ⟨ht, pt'⟩ (by decide) (by decide) (gn_round ha hb ⟨rfl, hs, ps'⟩ ⟨ht, pt'⟩ (by decide) (by decide) (gn_round ha hb ⟨rfl, hs, ps'⟩ ⟨ht, pt'⟩ (by decide) (by decide) (gn_end ha ⟨hs, ps'⟩ _ _))))
end Go.Proofs.Ytaopajmpifenoaa.Pure
end
