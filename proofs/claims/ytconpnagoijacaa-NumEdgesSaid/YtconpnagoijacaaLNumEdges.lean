/- NumEdges: at the bounds a sum, a difference, a product is told; one beyond it is not; a sum that goes beyond and comes back is not: for every number. -/
import Derived.Test.YtconpnagoijacaaPx17
import Derived.Test.YtconpnagoijacaaLNum
import Derived.Test.YtconpnagoijacaaLWakes02
namespace Go.Proofs.Ytconpnagoijacaa.P
open Go.RowKit Go.Proofs.YtconpnagoijacaaW.PrintWords Go.Proofs.YtconpnagoijacaaW.PrintLast Go.Proofs.YtconpnagoijacaaW.PrintMore
theorem edge3 (a b : Int) (ha : InB a) (hb : InB b) : doS 3 a b = if InB (a + b) then (a + b, 0) else (0, 4) := by simp [doS, ha, hb]
theorem edge4 (a b : Int) (ha : InB a) (hb : InB b) : doS 4 a b = if InB (a - b) then (a - b, 0) else (0, 4) := by simp [doS, ha, hb]
theorem edge5 (a b : Int) (ha : InB a) (hb : InB b) : doS 5 a b = if InB (a * b) then (a * b, 0) else (0, 4) := by simp [doS, ha, hb]
theorem in_ok {a : Int} (h0 : -4611686018427387904 ≤ a) (h1 : a ≤ 4611686018427387904) : InB a := ⟨h0, h1⟩
end Go.Proofs.Ytconpnagoijacaa.P
namespace Go.Proofs.Ytconpnagoijacaa.Pure
open Go.RowKit Go.Proofs.Ytconpnagoijacaa.P Go.Proofs.YtconpnagoijacaaW.PrintWords Go.Proofs.YtconpnagoijacaaW.PrintLast Go.Proofs.YtconpnagoijacaaW.PrintMore
theorem NumEdges : constablelaw02_NumEdges.Pure := by
  intro a ha
  refine Ev.rounds (r := true) ?_
  unfold constablelaw02_NumEdges.f
  have e : ∃ n : Int, 1 ≤ n ∧ n ≤ 1000000 ∧ wrap64 (1 + (wrap64 (Int.tmod (IntKind.u64.wrap a) 1000000))) = n := by
    rw [IntKind.wrap_u64, Int.tmod_eq_emod_of_nonneg (by omega)]
    exact ⟨_, by unfold wrap64; omega, by unfold wrap64; omega, rfl⟩
  obtain ⟨n, h1, h2, e⟩ := e
  rw [e]
  have w1 : wrap64 (4611686018427387904 - n) = 4611686018427387904 - n := by unfold wrap64; omega
  have w2 : wrap64 (n + 1) = n + 1 := by unfold wrap64; omega
  have w3 : wrap64 (-4611686018427387904 + n) = -4611686018427387904 + n := by unfold wrap64; omega
  have w6 : wrap64 (-n) = -n := by unfold wrap64; omega
  have d0 : 0 ≤ 4611686018427387904 / n := Int.ediv_nonneg (by decide) (by omega)
  have d1 : 4611686018427387904 / n ≤ 4611686018427387904 := Int.ediv_le_self _ (by decide)
  have w4 : wrap64 (Int.tdiv 4611686018427387904 n) = 4611686018427387904 / n := by
    rw [Int.tdiv_eq_ediv_of_nonneg (by decide)]; unfold wrap64; omega
  have hm := Int.mul_ediv_add_emod 4611686018427387904 n
  have hl := Int.emod_lt_of_pos 4611686018427387904 (b := n) (by omega)
  have hg := Int.emod_nonneg 4611686018427387904 (b := n) (by omega)
  have d2 : n = 1 ∨ 4611686018427387904 / n ≤ 2305843009213693952 := by
    by_cases n1 : n = 1
    · exact .inl n1
    · refine .inr ?_
      have := Int.mul_le_mul_of_nonneg_right (show 2 ≤ n by omega) d0
      omega
  rw [w1, w2, w3, w4, w6]
  have w5 : wrap64 (4611686018427387904 / n + 1) = 4611686018427387904 / n + 1 := by unfold wrap64; omega
  rw [w5]
  have hmc : 4611686018427387904 / n * n = n * (4611686018427387904 / n) := Int.mul_comm _ _
  have hmd : (4611686018427387904 / n + 1) * n = n * (4611686018427387904 / n) + n := by rw [Int.add_mul, hmc]; simp
  generalize 4611686018427387904 / n = q at *
  generalize 4611686018427387904 % n = r at *
  have a1 : doS 3 (4611686018427387904 - n) n = (4611686018427387904, 0) := by
    rw [edge3 _ _ (in_ok (by omega) (by omega)) (in_ok (by omega) (by omega)), show 4611686018427387904 - n + n = 4611686018427387904 by omega]; rfl
  have a2 : doS 3 (4611686018427387904 - n) (n + 1) = (0, 4) := by
    rw [edge3 _ _ (in_ok (by omega) (by omega)) (in_ok (by omega) (by omega)), if_neg (by rw [InB_iff]; omega)]
  have a3 : doS 4 (-4611686018427387904 + n) n = (-4611686018427387904, 0) := by
    rw [edge4 _ _ (in_ok (by omega) (by omega)) (in_ok (by omega) (by omega)), show -4611686018427387904 + n - n = -4611686018427387904 by omega]; rfl
  have a4 : doS 4 (-4611686018427387904 + n) (n + 1) = (0, 4) := by
    rw [edge4 _ _ (in_ok (by omega) (by omega)) (in_ok (by omega) (by omega)), if_neg (by rw [InB_iff]; omega)]
  have a5 : doS 5 q n = (q * n, 0) := by
    rw [edge5 _ _ (in_ok (by omega) (by omega)) (in_ok (by omega) (by omega)), if_pos (in_ok (by omega) (by omega))]
  have a6 : doS 5 (q + 1) n = (0, 4) := by
    by_cases hq : InB (q + 1)
    · rw [edge5 _ _ hq (in_ok (by omega) (by omega)), if_neg (by rw [InB_iff]; omega)]
    · simp only [doS, or_true, if_true]; rw [if_neg (fun h => hq h.1)]
  have a7 : doS 5 (-4611686018427387904) (-1) = (4611686018427387904, 0) := by decide +kernel
  have a8 : sumS 0 [4611686018427387904, -n, n] = (4611686018427387904, 0) := by
    have s1 : doS 3 0 4611686018427387904 = (4611686018427387904, 0) := by decide +kernel
    have s2 : doS 3 4611686018427387904 (-n) = (4611686018427387904 - n, 0) := by
      rw [edge3 _ _ (in_ok (by omega) (by omega)) (in_ok (by omega) (by omega)), if_pos (in_ok (by omega) (by omega)), Int.sub_eq_add_neg]
    simp only [sumS, s1, s2, a1, if_true]
  have a9 : sumS 0 [4611686018427387904, n, -n] = (0, 4) := by
    have s1 : doS 3 0 4611686018427387904 = (4611686018427387904, 0) := by decide +kernel
    have s2 : doS 3 4611686018427387904 n = (0, 4) := by
      rw [edge3 _ _ (in_ok (by omega) (by omega)) (in_ok (by omega) (by omega)), if_neg (by rw [InB_iff]; omega)]
    simp only [sumS, s1, s2, if_true]
    simp
  refine Ev.bind (num_Do_ev _ _ _) (Ev.bind (num_Do_ev _ _ _) (Ev.bind (num_Do_ev _ _ _) (Ev.bind (num_Do_ev _ _ _) (evNeg (by omega) (Ev.bind (num_Do_ev _ _ _) (Ev.bind (num_Do_ev _ _ _) (Ev.bind (num_Do_ev _ _ _) (Ev.bind (num_Sum_ev _ (by simp)) (Ev.bind (num_Sum_ev _ (by simp)) ?_)))))))))
  rw [a1, a2, a3, a4, a5, a6, a7, a8, a9]
  exact evPos rfl (evPos rfl (evPos rfl (evPos rfl (evPos rfl (evPos rfl (evPos rfl (evPos (show q * n ≤ 4611686018427387904 by omega) (evPos rfl (evPos rfl (evPos rfl (evPos rfl (evPos rfl (evPos rfl (Ev.bind wakes02_ev (evSome rfl)))))))))))))))
end Go.Proofs.Ytconpnagoijacaa.Pure
