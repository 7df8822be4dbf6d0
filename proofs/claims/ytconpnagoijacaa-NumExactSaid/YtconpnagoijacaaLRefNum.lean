import Derived.Test.YtconpnagoijacaaPx10
import Derived.Test.YtconpnagoijacaaPx11
import Derived.Test.YtconpnagoijacaaLNum
namespace Go.Proofs.Ytconpnagoijacaa.P
open Go.RowKit Go.Proofs.YtconpnagoijacaaW.PrintWords Go.Proofs.YtconpnagoijacaaW.PrintLast Go.Proofs.YtconpnagoijacaaW.PrintMore

theorem ref_In_eq (a b c : Int) : constableref01_In.f a b c = some (decide (b ≤ a ∧ a ≤ c)) := by
  unfold constableref01_In.f
  split
  · congr 1; rw [decide_eq_decide]; omega
  · congr 1; symm; rw [decide_eq_false_iff_not]; omega
theorem abs_mul_abs (a b : Int) : (if a < -a then -a else a) * (if b < -b then -b else b) = if a * b < 0 then -(a * b) else a * b := by
  by_cases ha : a < -a <;> by_cases hb : b < -b <;> simp only [ha, hb, if_true, if_false]
  · have : 0 < a * b := Int.mul_pos_of_neg_of_neg (by omega) (by omega)
    rw [if_neg (by omega)]; exact Int.neg_mul_neg a b
  · have : a * b ≤ 0 := Int.mul_nonpos_of_nonpos_of_nonneg (by omega) (by omega)
    rw [Int.neg_mul]; split <;> omega
  · have : a * b ≤ 0 := Int.mul_nonpos_of_nonneg_of_nonpos (by omega) (by omega)
    rw [Int.mul_neg]; split <;> omega
  · have : 0 ≤ a * b := Int.mul_nonneg (by omega) (by omega)
    rw [if_neg (by omega)]
theorem ref_over {a b : Int} (ha : InB a) (hb : InB b) (hb0 : b ≠ 0) :
    (mx a (wrap64 (-a)) > wrap64 (Int.tdiv 4611686018427387904 (mx b (wrap64 (-b))))) ↔ ¬ InB (a * b) := by
  rw [InB_iff] at ha hb
  have e1 : wrap64 (-a) = -a := by unfold wrap64; omega
  have e2 : wrap64 (-b) = -b := by unfold wrap64; omega
  rw [e1, e2]
  have m1 : mx a (-a) = if a < -a then -a else a := rfl
  have m2 : mx b (-b) = if b < -b then -b else b := rfl
  have hm := abs_mul_abs a b
  rw [← m1, ← m2] at hm
  have p1 : 0 ≤ mx a (-a) := by rw [m1]; split <;> omega
  have p2 : 0 < mx b (-b) := by rw [m2]; split <;> omega
  generalize mx a (-a) = x at *
  generalize mx b (-b) = y at *
  rw [Int.tdiv_eq_ediv_of_nonneg (by decide)]
  have h1 : 4611686018427387904 / y ≤ 4611686018427387904 := Int.ediv_le_self _ (by decide)
  have h2 : 0 ≤ 4611686018427387904 / y := Int.ediv_nonneg (by decide) (by omega)
  have e3 : wrap64 (4611686018427387904 / y) = 4611686018427387904 / y := by unfold wrap64; omega
  rw [e3, InB_iff]
  have h3 : 4611686018427387904 / y < x ↔ 4611686018427387904 < x * y := Int.ediv_lt_iff_lt_mul p2
  rw [gt_iff_lt, h3, hm]
  split <;> omega
theorem ref_Do_eq (kind a b : Int) (k : Nat) : constableref01_Do.f (k + 5) kind a b = some (doS kind a b) := by
  unfold constableref01_Do.f doS
  simp only [constableref01_Do.j0, constableref01_Do.j1, constableref01_Do.j2, constableref01_Do.j3, constableref01_Do.j4, ref_In_eq, Option.bind_some]
  have i1 : decide (-4611686018427387904 ≤ a ∧ a ≤ 4611686018427387904) = decide (InB a) := rfl
  have i2 : decide (-4611686018427387904 ≤ b ∧ b ≤ 4611686018427387904) = decide (InB b) := rfl
  rw [i1, i2]
  by_cases ha : InB a
  · by_cases hb : InB b
    · simp only [ha, hb, decide_true, if_true, Bool.not_true, Bool.false_eq_true, if_false, and_self]
      have add : ∀ c : Int, InB c → (if c > 0 then (if a > (wrap64 (4611686018427387904 - c)) then (if true = true then some (0, 4) else some (wrap64 (a + c), 0)) else (if c < 0 then (if decide (a < (wrap64 ((-4611686018427387904) - c))) = true then some (0, 4) else some (wrap64 (a + c), 0)) else (some (wrap64 (a + c), 0)))) else (if c < 0 then (if decide (a < (wrap64 ((-4611686018427387904) - c))) = true then some (0, 4) else some (wrap64 (a + c), 0)) else (some (wrap64 (a + c), 0)))) = some (if InB (a + c) then (a + c, (0 : Int)) else (0, 4)) := by
        intro c hc
        have ha' := (InB_iff a).1 ha
        rw [InB_iff] at hc
        unfold wrap64
        by_cases p : c > 0
        · rw [if_pos p]
          split
          · rw [if_pos rfl, if_neg (by rw [InB_iff]; omega)]
          · rw [if_neg (by omega), if_pos (by rw [InB_iff]; omega)]; congr 2; omega
        · rw [if_neg p]
          split
          · simp only [decide_eq_true_eq]
            split
            · rw [if_neg (by rw [InB_iff]; omega)]
            · rw [if_pos (by rw [InB_iff]; omega)]; congr 2; omega
          · rw [if_pos (by rw [InB_iff]; omega)]; congr 2; omega
      have hn : wrap64 (-b) = -b := by rw [InB_iff] at hb; unfold wrap64; omega
      have a1 := add b hb
      have a2 := add (-b) (by rw [InB_iff] at *; omega)
      rw [hn]
      simp only [if_true] at a1 a2
      by_cases h3 : kind = 3
      · subst h3
        simp only [if_true, true_or]
        simp only [show ((3 : Int) = 4) = False by simp, if_false, beq_self_eq_true, if_true]
        exact a1
      · by_cases h4 : kind = 4
        · subst h4
          simp only [show ((4 : Int) = 3) = False by simp, if_false, true_or, or_true, if_true, beq_self_eq_true, Int.sub_eq_add_neg]
          exact a2
        · by_cases h5 : kind = 5
          · subst h5
            simp only [show ((5 : Int) = 3) = False by simp, show ((5 : Int) = 4) = False by simp, if_false, or_true, if_true]
            simp only [show ((5 : Int) == 3) = false by rfl, show ((5 : Int) != 5) = false by rfl, Bool.false_eq_true, if_false]
            by_cases a0 : a = 0
            · subst a0; simp [wrap64, InB_iff]
            · by_cases b0 : b = 0
              · subst b0; simp [wrap64, InB_iff]
              · have ro := ref_over ha hb b0
                rw [hn] at ro
                rw [if_neg a0, if_neg b0, if_neg]
                · by_cases ho : InB (a * b)
                  · rw [if_neg (by rw [ro]; exact not_not_intro ho), if_pos ho]
                    rw [InB_iff] at ho
                    congr 2
                    unfold wrap64; omega
                  · rw [if_pos (by rw [ro]; exact ho), if_neg ho]
                · have : mx b (-b) = if b < -b then -b else b := rfl
                  rw [this]; split <;> omega
          · simp [h3, h4, h5]
    · simp only [ha, hb, decide_true, decide_false, if_true, Bool.not_false, and_false, if_false]
      by_cases h3 : kind = 3
      · simp [h3]
      · by_cases h4 : kind = 4
        · simp [h4]
        · by_cases h5 : kind = 5 <;> simp [h3, h4, h5]
  · simp only [ha, decide_false, Bool.false_eq_true, if_false, if_true, false_and]
    by_cases h3 : kind = 3
    · simp [h3]
    · by_cases h4 : kind = 4
      · simp [h4]
      · by_cases h5 : kind = 5 <;> simp [h3, h4, h5]
theorem ref_Do_ev (kind a b : Int) : Ev (fun k => constableref01_Do.f k kind a b) (doS kind a b) := Ev.of (constableref01_Do.mono _ _ _) (ref_Do_eq kind a b 0)
end Go.Proofs.Ytconpnagoijacaa.P
