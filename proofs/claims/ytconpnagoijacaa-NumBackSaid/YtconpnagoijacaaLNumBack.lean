/- NumBack: what is added is taken off again; what is taken off is added; times is added as often: for every two numbers and every count. -/
import Derived.Test.YtconpnagoijacaaPx15
import Derived.Test.YtconpnagoijacaaLNum
import Derived.Test.YtconpnagoijacaaLWakes02
namespace Go.Proofs.Ytconpnagoijacaa.P
open Go.RowKit Go.Proofs.YtconpnagoijacaaW.PrintWords Go.Proofs.YtconpnagoijacaaW.PrintLast Go.Proofs.YtconpnagoijacaaW.PrintMore
theorem doS3 (a b : Int) : doS 3 a b = if InB a ∧ InB b then if InB (a + b) then (a + b, 0) else (0, 4) else (0, 4) := by simp [doS]
theorem doS4 (a b : Int) : doS 4 a b = if InB a ∧ InB b then if InB (a - b) then (a - b, 0) else (0, 4) else (0, 4) := by simp [doS]
theorem doS5 (a b : Int) : doS 5 a b = if InB a ∧ InB b then if InB (a * b) then (a * b, 0) else (0, 4) else (0, 4) := by simp [doS]
theorem sumS_rep (a : Int) (ha : InB a) : ∀ (n m : Nat), InB (a * m) → sumS (a * m) (List.replicate n a) = if InB (a * (m + n : Nat)) then (a * (m + n : Nat), 0) else (0, 4) := by
  intro n
  induction n with
  | zero => intro m hm; simp only [Nat.add_zero]; rw [if_pos hm]; rfl
  | succ n ih =>
    intro m hm
    have e : a * (m : Int) + a = a * ((m + 1 : Nat) : Int) := by rw [Int.natCast_add, Int.mul_add]; simp
    have d : doS 3 (a * m) a = if InB (a * ((m + 1 : Nat) : Int)) then (a * ((m + 1 : Nat) : Int), 0) else (0, 4) := by rw [doS3, if_pos ⟨hm, ha⟩, e]
    simp only [List.replicate_succ, sumS, d]
    by_cases h1 : InB (a * ((m + 1 : Nat) : Int))
    · rw [if_pos h1]
      simp only [if_true]
      rw [ih (m + 1) h1, show m + 1 + n = m + (n + 1) by omega]
    · rw [if_neg h1]
      simp only [show ((4 : Int) = 0) = False by simp, if_false]
      rw [if_neg]
      intro h2
      apply h1
      rw [InB_iff] at h2 ⊢
      have hle : ((m + 1 : Nat) : Int) ≤ ((m + (n + 1) : Nat) : Int) := by omega
      by_cases p : 0 ≤ a
      · have := Int.mul_le_mul_of_nonneg_left hle p
        have : 0 ≤ a * ((m + 1 : Nat) : Int) := Int.mul_nonneg p (by omega)
        omega
      · have := Int.mul_le_mul_of_nonpos_left (a := a) (by omega) hle
        have : a * ((m + 1 : Nat) : Int) ≤ 0 := Int.mul_nonpos_of_nonpos_of_nonneg (by omega) (by omega)
        omega
theorem sumS_bad (a : Int) (ha : ¬ InB a) (n : Nat) : sumS 0 (List.replicate (n + 1) a) = (0, 4) := by
  have d : doS 3 0 a = (0, 4) := by rw [doS3, if_neg (fun h => ha h.2)]
  simp only [List.replicate_succ, sumS, d]
  simp
theorem numBack_j3 (a : Int) (n : Nat) (hn : n < 20) :
    Ev (fun k => constablelaw02_NumBack.j3 k n (doS 5 a n).1 (doS 5 a n).2 (sumS 0 (List.replicate n a)).1 (sumS 0 (List.replicate n a)).2 (decide (InB a))) true := by
  refine evShift ?_
  simp only [constablelaw02_NumBack.j3]
  have hb : InB (n : Int) := by rw [InB_iff]; omega
  have hw := wakes02_ev
  cases n with
  | zero =>
    refine evPos rfl ?_
    by_cases ha : InB a
    · have : doS 5 a ((0 : Nat) : Int) = (0, 0) := by
        rw [doS5, if_pos ⟨ha, hb⟩]; simp [InB_iff]
      rw [this]
      refine evPos (by simp [ha]) (evPos rfl (evPos rfl (evPos rfl (Ev.bind hw (evSome rfl)))))
    · have : doS 5 a ((0 : Nat) : Int) = (0, 4) := by
        rw [doS5, if_neg (fun h => ha h.1)]
      rw [this]
      refine evPos (by simp [ha]) (evPos rfl (evPos rfl (evPos rfl (Ev.bind hw (evSome rfl)))))
  | succ n =>
    refine evNeg (by omega) ?_
    have e : doS 5 a ((n + 1 : Nat) : Int) = sumS 0 (List.replicate (n + 1) a) := by
      by_cases ha : InB a
      · have h := sumS_rep a ha (n + 1) 0 (by simp [InB_iff])
        simp only [Int.natCast_zero, Int.mul_zero, Nat.zero_add] at h
        rw [h, doS5, if_pos ⟨ha, hb⟩]
      · rw [sumS_bad a ha n, doS5, if_neg (fun h => ha h.1)]
    rw [e]
    exact evPos rfl (evPos rfl (Ev.bind hw (evSome rfl)))
theorem numBack_l0 (a : Int) (n : Nat) (hn : n < 20) : ∀ (d m : Nat), m + d = n → Ev (fun k => constablelaw02_NumBack.l0 k a n (List.replicate m a) m) true := by
  intro d
  induction d with
  | zero =>
    intro m hm
    obtain rfl : m = n := by omega
    refine evShift ?_
    simp only [constablelaw02_NumBack.l0]
    refine evNeg (by omega) (Ev.bind (num_Do_ev _ _ _) (Ev.bind (num_Sum_ev _ (by simp; omega)) ?_))
    have h := numBack_j3 a m hn
    by_cases p : a ≥ -4611686018427387904
    · refine evPos p ?_
      have : decide (a ≤ 4611686018427387904) = decide (InB a) := by rw [decide_eq_decide, InB_iff]; omega
      rw [this]; exact h
    · refine evNeg p ?_
      have : false = decide (InB a) := by symm; rw [decide_eq_false_iff_not, InB_iff]; omega
      rw [this]; exact h
  | succ d ih =>
    intro m hm
    refine evShift ?_
    simp only [constablelaw02_NumBack.l0]
    refine evPos (by omega) (evPos (by simp; omega) ?_)
    have e1 : List.replicate m a ++ [a] = List.replicate (m + 1) a := by rw [List.replicate_succ']
    have e2 : wrap64 ((m : Int) + 1) = ((m + 1 : Nat) : Int) := by unfold wrap64; omega
    rw [e1, e2]
    exact ih (m + 1) (by omega)
theorem numBack_j1 (a c : Int) : Ev (fun k => constablelaw02_NumBack.j1 k a c) true := by
  refine evShift ?_
  simp only [constablelaw02_NumBack.j1]
  have e : ∃ n : Nat, n < 20 ∧ wrap64 (Int.tmod (IntKind.u64.wrap c) 20) = (n : Int) := by
    rw [IntKind.wrap_u64, Int.tmod_eq_emod_of_nonneg (by omega)]
    refine ⟨(c % 18446744073709551616 % 20).toNat, by omega, ?_⟩
    unfold wrap64; omega
  obtain ⟨n, hn, e⟩ := e
  rw [e]
  exact numBack_l0 a n hn n 0 (by omega)
theorem numBack_j0 (a b c : Int) : Ev (fun k => constablelaw02_NumBack.j0 k a b c) true := by
  refine evShift ?_
  simp only [constablelaw02_NumBack.j0]
  refine Ev.bind (num_Do_ev _ _ _) ?_
  rw [doS4]
  by_cases h : InB a ∧ InB b
  · rw [if_pos h]
    by_cases h2 : InB (a - b)
    · rw [if_pos h2]
      refine evPos rfl (Ev.bind (num_Do_ev _ _ _) ?_)
      rw [doS3, if_pos ⟨h2, h.2⟩, show a - b + b = a by omega, if_pos h.1]
      exact evPos rfl (evPos rfl (numBack_j1 a c))
    · rw [if_neg h2]
      exact evNeg (by decide) (numBack_j1 a c)
  · rw [if_neg h]
    exact evNeg (by decide) (numBack_j1 a c)
end Go.Proofs.Ytconpnagoijacaa.P
namespace Go.Proofs.Ytconpnagoijacaa.Pure
open Go.RowKit Go.Proofs.Ytconpnagoijacaa.P Go.Proofs.YtconpnagoijacaaW.PrintWords Go.Proofs.YtconpnagoijacaaW.PrintLast Go.Proofs.YtconpnagoijacaaW.PrintMore
theorem NumBack : constablelaw02_NumBack.Pure := by
  intro a b c ha hb hc
  refine Ev.rounds (r := true) ?_
  unfold constablelaw02_NumBack.f
  refine Ev.bind (num_Do_ev _ _ _) ?_
  rw [doS3]
  by_cases h : InB a ∧ InB b
  · rw [if_pos h]
    by_cases h2 : InB (a + b)
    · rw [if_pos h2]
      refine evPos rfl (Ev.bind (num_Do_ev _ _ _) ?_)
      rw [doS4, if_pos ⟨h2, h.2⟩, show a + b - b = a by omega, if_pos h.1]
      exact evPos rfl (evPos rfl (numBack_j0 a b c))
    · rw [if_neg h2]
      exact evNeg (by decide) (numBack_j0 a b c)
  · rw [if_neg h]
    exact evNeg (by decide) (numBack_j0 a b c)
end Go.Proofs.Ytconpnagoijacaa.Pure
