/- NumTurn: the two may change places, added or times; to take off is to add the other way about: for every two numbers. -/
import Derived.Test.YtconpnagoijacaaPx16
import Derived.Test.YtconpnagoijacaaLNum
import Derived.Test.YtconpnagoijacaaLWakes02
namespace Go.Proofs.Ytconpnagoijacaa.P
open Go.RowKit Go.Proofs.YtconpnagoijacaaW.PrintWords Go.Proofs.YtconpnagoijacaaW.PrintLast Go.Proofs.YtconpnagoijacaaW.PrintMore
theorem doS_comm3 (a b : Int) : doS 3 a b = doS 3 b a := by
  simp only [doS, true_or, if_true, Int.add_comm a b, and_comm (a := InB a)]
theorem doS_comm5 (a b : Int) : doS 5 a b = doS 5 b a := by
  simp only [doS, or_true, if_true, show ((5 : Int) = 3) = False by simp, show ((5 : Int) = 4) = False by simp, if_false, Int.mul_comm a b, and_comm (a := InB a)]
theorem numTurn_j1 (a b : Int) (hb : InB b) : Ev (fun k => constablelaw02_NumTurn.j1 k a b (doS 3 a b).1 (doS 3 a b).2 false) true := by
  refine evShift ?_
  simp only [constablelaw02_NumTurn.j1, Bool.false_eq_true, if_false]
  refine Ev.bind (num_Do_ev _ _ _) ?_
  have e : doS 4 a (wrap64 (-b)) = doS 3 a b := by
    have hb' : InB (wrap64 (-b)) := by rw [InB_iff] at *; unfold wrap64; omega
    have hw : a - wrap64 (-b) = a + b := by rw [InB_iff] at hb; unfold wrap64; omega
    simp only [doS, true_or, or_true, if_true, show ((4 : Int) = 3) = False by simp, if_false, hw, hb, hb', and_true]
  rw [e]
  exact evPos rfl (evPos rfl (Ev.bind wakes02_ev (evSome rfl)))
theorem numTurn_j1' (a b : Int) (hb : ¬ InB b) : Ev (fun k => constablelaw02_NumTurn.j1 k a b (doS 3 a b).1 (doS 3 a b).2 true) true := by
  refine evShift ?_
  simp only [constablelaw02_NumTurn.j1, if_true]
  have e : doS 3 a b = (0, 4) := by
    simp only [doS, true_or, if_true]
    rw [if_neg (fun h => hb h.2)]
  rw [e]
  exact evPos rfl (Ev.bind wakes02_ev (evSome rfl))
end Go.Proofs.Ytconpnagoijacaa.P
namespace Go.Proofs.Ytconpnagoijacaa.Pure
open Go.RowKit Go.Proofs.Ytconpnagoijacaa.P Go.Proofs.YtconpnagoijacaaW.PrintWords Go.Proofs.YtconpnagoijacaaW.PrintLast Go.Proofs.YtconpnagoijacaaW.PrintMore
theorem NumTurn : constablelaw02_NumTurn.Pure := by
  intro a b ha hb
  refine Ev.rounds (r := true) ?_
  unfold constablelaw02_NumTurn.f
  refine Ev.bind (num_Do_ev _ _ _) (Ev.bind (num_Do_ev _ _ _) (Ev.bind (num_Do_ev _ _ _) (Ev.bind (num_Do_ev _ _ _) (Ev.bind (num_Do_ev _ _ _) (Ev.bind (num_Do_ev _ _ _) ?_)))))
  rw [doS_comm3 b a, doS_comm5 b a, show doS 0 a b = (0, 3) by simp [doS], show doS 2 a b = (0, 3) by simp [doS]]
  refine evPos rfl (evPos rfl (evPos rfl (evPos rfl (evPos rfl ?_))))
  refine evShift ?_
  simp only [constablelaw02_NumTurn.j0, bne_self_eq_false, Bool.false_eq_true, if_false]
  by_cases h : b < -4611686018427387904
  · exact evPos h (numTurn_j1' a b (by rw [InB_iff]; omega))
  · refine evNeg h ?_
    by_cases h2 : b > 4611686018427387904
    · rw [decide_eq_true h2]; exact numTurn_j1' a b (by rw [InB_iff]; omega)
    · rw [decide_eq_false h2]; exact numTurn_j1 a b (by rw [InB_iff]; omega)
end Go.Proofs.Ytconpnagoijacaa.Pure
