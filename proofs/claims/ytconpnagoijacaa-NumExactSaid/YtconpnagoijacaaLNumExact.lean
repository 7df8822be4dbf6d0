/- NumExact: what any two come to, the sum of any list of at most 100 numbers, or why not, are the reference's: for every kind, every two numbers and every list. -/
import Derived.Test.YtconpnagoijacaaPx14
import Derived.Test.YtconpnagoijacaaLNum
import Derived.Test.YtconpnagoijacaaLRefNum
import Derived.Test.YtconpnagoijacaaLWakes02
namespace Go.Proofs.Ytconpnagoijacaa.P
open Go.RowKit Go.Proofs.YtconpnagoijacaaW.PrintWords Go.Proofs.YtconpnagoijacaaW.PrintLast Go.Proofs.YtconpnagoijacaaW.PrintMore
theorem numExact_l0 (l : List Int) : ∀ (p : List Int) (acc e : Int), (p ++ l).length ≤ 140737488351232 → (e ≠ 0 → acc = 0) →
    Ev (fun k => constablelaw02_NumExact.l0 k (p ++ l) (if e = 0 then sumS acc l else (0, e)).1 (if e = 0 then sumS acc l else (0, e)).2 acc e p.length) true := by
  induction l with
  | nil =>
    intro p acc e hl he
    refine evShift ?_
    simp only [constablelaw02_NumExact.l0]
    refine evNeg (by simp) ?_
    have h : (if e = 0 then sumS acc [] else (0, e)) = (acc, e) := by
      split
      · subst e; rfl
      · rw [he ‹_›]
    rw [h]
    exact evPos rfl (evPos rfl (Ev.bind wakes02_ev (evSome rfl)))
  | cons x l ih =>
    intro p acc e hl he
    refine evShift ?_
    simp only [constablelaw02_NumExact.l0]
    refine evPos (by simp; omega) ?_
    by_cases h0 : e = 0
    · subst h0
      refine evPos rfl (evPos (by omega) (Ev.bind (ref_Do_ev _ _ _) ?_))
      rw [rd_at, wrap_len p (by simp at hl; omega)]
      have := ih (p ++ [x]) (doS 3 acc x).1 (doS 3 acc x).2 (by simpa using hl) (by
        unfold doS
        simp only [true_or, if_true]
        split
        · split
          · intro h; exact absurd rfl h
          · intro _; rfl
        · intro _; rfl)
      simp only [List.append_assoc, List.cons_append, List.nil_append, List.length_append, List.length_cons, List.length_nil] at this
      simp only [if_true]
      have e2 : sumS acc (x :: l) = if (doS 3 acc x).2 = 0 then sumS (doS 3 acc x).1 l else (0, (doS 3 acc x).2) := by simp only [sumS]
      rw [e2]
      exact_mod_cast this
    · refine evNeg h0 ?_
      rw [if_neg h0, he h0]
      exact evPos rfl (evPos rfl (Ev.bind wakes02_ev (evSome rfl)))
end Go.Proofs.Ytconpnagoijacaa.P
namespace Go.Proofs.Ytconpnagoijacaa.Pure
open Go.RowKit Go.Proofs.Ytconpnagoijacaa.P Go.Proofs.YtconpnagoijacaaW.PrintWords Go.Proofs.YtconpnagoijacaaW.PrintLast Go.Proofs.YtconpnagoijacaaW.PrintMore
theorem NumExact : constablelaw02_NumExact.Pure := by
  intro kind a b l ha hb hk hl0 hl1 hl
  refine Ev.rounds (r := true) ?_
  unfold constablelaw02_NumExact.f
  by_cases h : (l.length : Int) > 100
  · exact evPos h (evSome rfl)
  · refine evNeg h (Ev.bind (num_Do_ev _ _ _) (Ev.bind (ref_Do_ev _ _ _) (Ev.bind (num_Sum_ev l (by omega)) (evPos rfl ?_))))
    refine evShift ?_
    simp only [constablelaw02_NumExact.j0, bne_self_eq_false, Bool.false_eq_true, if_false]
    exact numExact_l0 l [] 0 0 (by simp; omega) (fun h => absurd rfl h)
end Go.Proofs.Ytconpnagoijacaa.Pure
