/- Part of the proof. -/
import Derived.Test.YtfdopmapaaagoaaGreatDoorM4
set_option linter.unusedVariables false
set_option linter.unusedSimpArgs false
namespace Go.PV
open Go Go.Proofs
set_option maxRecDepth 100000
theorem nodV_snoc (l : List Nod) (x : Nod) : nodV (l ++ [x]) = nodV l ++ [x.c] := List.map_append
theorem frmV_cons (f : Frm) (st : List Frm) : frmV (f :: st) = frmV st ++ [[.int .i64 f.1, .int .i64 f.2]] := by
  show ((f :: st).reverse.map fun f => [V.int .i64 f.1, .int .i64 f.2]) = _
  rw [List.reverse_cons, List.map_append]; rfl
theorem frmV_len (st : List Frm) : (frmV st).length = st.length := by rw [List.length_map, List.length_reverse]
theorem arrN_snoc (l : List Nod) (x : Nod) : arrN (l ++ [x]) = .arr 0 false 5 (nodV l ++ [x.c]) := congrArg (Ob.arr 0 false 5) (nodV_snoc l x)
theorem arrF_cons (f : Frm) (st : List Frm) : arrF (f :: st) = .arr 0 false 2 (frmV st ++ [[.int .i64 f.1, .int .i64 f.2]]) := congrArg (Ob.arr 0 false 2) (frmV_cons f st)
theorem put_good (r : Rd) (l : List Nod) (st : List Frm) (x : Nod) (hl : l.length ≤ 10000000) : Good Tryz.prog 151 [.ptr 0 0 0, .agg x.c] [rdsO, r.ob, arrN l, arrF st] [] [rdsO, r.ob, arrN (l ++ [x]), arrF st] := by
  have hll : (nodV l).length = l.length := List.length_map _
  refine good_of hP Tryz.func151 (by kernel_rfl) (lv := [0, 1, 3]) (js := []) ⟨rfl, rfl, rfl, rfl, rfl, rfl, _, rfl, ?_⟩
  conv => whnf
  refine ⟨⟨⟩, by dsimp only; rw [hll]; simp only [List.length_cons, List.length_nil]; omega, ?_⟩
  conv => whnf
  refine ⟨by kernel_rfl, ?_⟩
  conv => whnf
  rw [arrN_snoc]
  refine ⟨[], rfl, ?_⟩
  conv => whnf
  refine ⟨⟨⟩, rfl, ?_⟩
  conv => whnf
  refine ⟨⟨⟩, rfl, ?_⟩
  conv => whnf
  refine ⟨⟨⟩, rfl, ?_⟩
  conv => whnf
  exact ⟨⟨⟩, rfl, trivial⟩
theorem begins_good (r : Rd) (l : List Nod) (st : List Frm) (hl : r.l.length ≤ 1000000) (hst : st.length ≤ r.i) : Good Tryz.prog 150 [.ptr 0 0 0] [rdsO, r.ob, arrN l, arrF st] [] [rdsO, (Rd.beg (r.l.length + 1) r st).2.ob, arrN l, arrF (Rd.beg (r.l.length + 1) r st).1] := by
  refine good_of hP Tryz.func150 (by kernel_rfl) (lv := [0, 2, 15]) (js := []) ⟨rfl, rfl, rfl, rfl, rfl, rfl, _, rfl, ?_⟩
  generalize hU : Rd.beg (r.l.length + 1) r st = U
  conv => whnf
  refine loop_of hP [0, 2, 15] [] [0] [0, 1, 2, 3] [] (fun m s => ∃ (f : Nat) (q : Rd) (t : List Frm), f = m ∧ q.l = r.l ∧ (f = 0 → r.l.length ≤ q.i) ∧ r.l.length < f + q.i + 1 ∧ t.length ≤ q.i ∧ Rd.beg f q t = U ∧
    s = ⟨[(0, .ptr 0 0 0)], [(0, rdsO), (1, q.ob), (2, arrN l), (3, arrF t)]⟩) (r.l.length + 1) ?_ ?_
  · conv => whnf
    exact ⟨r.l.length + 1, r, st, rfl, rfl, (fun h => by cases h), by omega, hst, hU, rfl⟩
  · rintro m s ⟨f, q, t, rfl, hq, hf0, hf, ht, hU, rfl⟩
    have hql : q.l.length ≤ 1000000 := by rw [hq]; exact hl
    conv => whnf
    refine call0 (ones_good) ?_
    conv => whnf
    refine callN [(0, 0), (1, 0), (2, 0), (3, 0), (1280, 0)] (words1_good q l t hql) ?_
    conv => whnf
    refine ⟨⟨⟩, rfl, ?_⟩
    conv => whnf
    refine ⟨⟨⟩, rfl, ?_⟩
    conv => whnf
    refine ⟨⟨⟩, rfl, ?_⟩
    conv => whnf
    refine ⟨⟨⟩, rfl, ?_⟩
    conv => whnf
    refine ⟨⟨⟩, rfl, ?_⟩
    have h0 := @Rd.wordsR_0 onesL q Rd.ones_ne
    have hne := @Rd.wordsR_ne onesL q
    generalize hw : Rd.wordsR onesL q = w at *
    obtain ⟨k, q2⟩ := w
    dsimp only at h0 hne
    conv => whnf
    refine branch_of (fun hk => ?_) (fun hk => ?_)
    · have hk : k = 0 := of_decide_eq_true hk
      subst hk
      have := h0 rfl
      subst this
      conv => whnf
      refine callN [(1, 0)] (rsign_good' q2 [40] hql) ?_ 
      conv => whnf
      refine ⟨⟨⟩, rfl, ?_⟩
      rw [word_eq]
      cases hs : q2.see 5 [40] with
      | false =>
        have hU2 : Rd.beg f q2 t = (t, q2) := by
          cases f with
          | zero => rfl
          | succ f => rw [Rd.beg, hw, if_pos rfl, hs, if_neg (by simp)]
        rw [hU2] at hU
        subst hU
        conv => whnf
        refine ⟨[], rfl, ?_⟩
        conv => whnf
        refine ⟨⟨⟩, rfl, ?_⟩
        conv => whnf
        refine ⟨⟨⟩, rfl, ?_⟩
        conv => whnf
        refine ⟨⟨⟩, rfl, ?_⟩
        conv => whnf
        exact ⟨⟨⟩, rfl, trivial⟩
      | true =>
        have hlt := cur_lt' hs
        obtain ⟨f, rfl⟩ : ∃ g, f = g + 1 := ⟨f - 1, by have := fun e => hf0 e; rw [hq] at hlt; omega⟩
        rw [Rd.beg, hw, if_pos rfl, hs, if_pos rfl] at hU
        have hlt2 : q2.i < r.l.length := by rw [hq] at hlt; exact hlt
        conv => whnf
        refine ⟨⟨⟩, by dsimp only; rw [frmV_len]; simp only [List.length_cons, List.length_nil]; omega, ?_⟩
        conv => whnf
        refine ⟨f, by omega, f, q2.step, (0, 0) :: t, rfl, hq, (fun _ => by show r.l.length ≤ q2.i + 1; omega), by show r.l.length < f + (q2.i + 1) + 1; omega, by show _ + 1 ≤ q2.i + 1; omega, hU, ?_⟩
        rw [arrF_cons]
        rfl
    · have hk2 : ¬ k = 0 := of_decide_eq_false hk
      obtain ⟨e, ho, hlt, _⟩ := hne hk2
      subst e
      have hlt2 : q.i < r.l.length := by rw [hq] at hlt; exact hlt
      obtain ⟨f, rfl⟩ : ∃ g, f = g + 1 := ⟨f - 1, by have := fun e => hf0 e; omega⟩
      rw [Rd.beg, hw, if_neg hk2] at hU
      conv => whnf
      refine ⟨⟨⟩, by dsimp only; rw [frmV_len]; simp only [List.length_cons, List.length_nil]; omega, ?_⟩
      conv => whnf
      refine ⟨f, by omega, f, q.step, (k, 0) :: t, rfl, hq, (fun _ => by show r.l.length ≤ q.i + 1; omega), by show r.l.length < f + (q.i + 1) + 1; omega, by show _ + 1 ≤ q.i + 1; omega, hU, ?_⟩
      rw [arrF_cons]
theorem closes_good (r : Rd) (l : List Nod) (st : List Frm) (hl : r.l.length ≤ 1000000) (hb : l.length + st.length ≤ 3000000) : Good Tryz.prog 152 [.ptr 0 0 0] [rdsO, r.ob, arrN l, arrF st] [.bool (Rd.clo st l r).1] [rdsO, (Rd.clo st l r).2.2.2.ob, arrN (Rd.clo st l r).2.2.1, arrF (Rd.clo st l r).2.1] := by
  refine good_of hP Tryz.func152 (by kernel_rfl) (lv := [0, 2, 3, 4, 5, 6, 19, 41, 46, 62, 79]) (js := []) ⟨rfl, rfl, rfl, rfl, rfl, rfl, _, rfl, ?_⟩
  generalize hU : Rd.clo st l r = U
  conv => whnf
  refine loop_of hP [0, 2, 3, 4, 5, 6, 19, 41, 46, 62, 79] [] [0] [0, 1, 2, 3] [] (fun m s => ∃ (t : List Frm) (n : List Nod) (q : Rd), m = t.length ∧ q.l = r.l ∧ n.length + t.length = l.length + st.length ∧ Rd.clo t n q = U ∧
    s = ⟨[(0, .ptr 0 0 0)], [(0, rdsO), (1, q.ob), (2, arrN n), (3, arrF t)]⟩) st.length ?_ ?_
  · conv => whnf
    exact ⟨st, l, r, rfl, rfl, rfl, hU, rfl⟩
  · rintro m s ⟨t, n, q, rfl, hq, hlen, hU, rfl⟩
    have hql : q.l.length ≤ 1000000 := by rw [hq]; exact hl
    cases t with
    | nil =>
      rw [Rd.clo] at hU
      subst hU
      conv => whnf
      refine ⟨[], rfl, ?_⟩
      conv => whnf
      refine ⟨⟨⟩, rfl, ?_⟩
      conv => whnf
      refine ⟨⟨⟩, rfl, ?_⟩
      conv => whnf
      refine ⟨⟨⟩, rfl, ?_⟩
      conv => whnf
      exact ⟨⟨⟩, rfl, trivial⟩
    | cons x t =>
      obtain ⟨k, a⟩ := x
      have h0 : decide (0 < ((frmV ((k, a) :: t)).length : Int)) = true := by rw [decide_eq_true_iff, frmV_len, List.length_cons]; omega
      have hw : IntKind.i64.wrap (((frmV ((k, a) :: t)).length : Int) - 1) = (t.length : Nat) := by
        rw [List.length_cons] at hlen
        rw [frmV_len, List.length_cons, wr (by omega) (by omega)]; omega
      have hnl : (nodV n).length = n.length := List.length_map _
      rw [List.length_cons] at hlen
      have hw2 : IntKind.i64.wrap (((nodV n).length : Int) - 1) = (n.length : Int) - 1 := by rw [hnl, wr (by omega) (by omega)]
      have hrow : (frmV ((k, a) :: t))[((t.length : Nat) : Int).toNat]? = some [.int .i64 k, .int .i64 a] := by simp [frmV]
      conv => whnf
      rw [h0]
      conv => whnf
      refine callN [(1, 0)] (open_good q) ?_ 
      conv => whnf
      refine ⟨⟨⟩, rfl, ?_⟩
      rw [Rd.clo] at hU
      cases ho : q.isOpen with
      | false =>
        rw [ho, if_neg (by simp)] at hU
        subst hU
        conv => whnf
        refine ⟨[], rfl, ?_⟩
        conv => whnf
        refine ⟨⟨⟩, rfl, ?_⟩
        conv => whnf
        refine ⟨⟨⟩, rfl, ?_⟩
        conv => whnf
        refine ⟨⟨⟩, rfl, ?_⟩
        conv => whnf
        exact ⟨⟨⟩, rfl, trivial⟩
      | true =>
        rw [ho, if_pos rfl] at hU
        conv => whnf
        refine ⟨by kernel_rfl, ?_⟩
        conv => whnf
        rw [hw]
        refine ⟨⟨⟩, by rw [frmV_len, List.length_cons]; omega, ?_⟩
        conv => whnf
        refine ⟨_, hrow, ?_⟩
        conv => whnf
        refine call0 (arms_good k) ?_
        rcases arms_cases k with ⟨ha, hkk⟩ | ⟨ha, hkk⟩ | ⟨ha, hkk⟩ | ⟨ha, hkk⟩
        · have hU2 : (if (Rd.wordsR twosL q).1 = 0 then (true, (k, a) :: t, n, q.fail) else (false, ((Rd.wordsR twosL q).1, (n.length : Int) - 1) :: t, n, (Rd.wordsR twosL q).2)) = U := by rw [← hU, if_neg (show ¬ armsN k = 1 by omega), if_neg (show ¬ armsN k = 2 by omega)]
          rw [ha]
          conv => whnf
          refine call0 (twos_good) ?_
          conv => whnf
          refine callN [(0, 0), (1, 0), (2, 0), (3, 0), (3776, 0)] (words2_good q n ((k, a) :: t) hql) ?_
          conv => whnf
          refine ⟨⟨⟩, rfl, ?_⟩
          conv => whnf
          refine ⟨⟨⟩, rfl, ?_⟩
          conv => whnf
          refine ⟨⟨⟩, rfl, ?_⟩
          conv => whnf
          refine ⟨⟨⟩, rfl, ?_⟩
          conv => whnf
          refine ⟨⟨⟩, rfl, ?_⟩
          have hne := @Rd.wordsR_ne twosL q
          have hz := @Rd.wordsR_0 twosL q Rd.twos_ne
          generalize Rd.wordsR twosL q = w at *
          obtain ⟨wk, q2⟩ := w
          dsimp only at hne hz hU2
          conv => whnf
          refine branch_of (fun hk => ?_) (fun hk => ?_)
          · have hk2 : wk = 0 := of_decide_eq_true hk
            have := hz hk2
            subst this
            rw [if_pos hk2] at hU2
            subst hU2
            conv => whnf
            refine ⟨[], rfl, ?_⟩
            conv => whnf
            refine ⟨⟨⟩, rfl, ?_⟩
            conv => whnf
            refine ⟨⟨⟩, rfl, ?_⟩
            conv => whnf
            refine ⟨⟨⟩, rfl, ?_⟩
            conv => whnf
            exact ⟨⟨⟩, rfl, trivial⟩
          · have hk2 : ¬ wk = 0 := of_decide_eq_false hk
            rw [if_neg hk2] at hU2
            subst hU2
            conv => whnf
            rw [hw2]
            refine ⟨⟨⟩, by dsimp only; rw [frmV_len, List.length_cons]; omega, ?_⟩
            conv => whnf
            refine ⟨_, hrow, ?_⟩
            conv => whnf
            have hset : (frmV ((k, a) :: t)).set t.length [.int .i64 wk, .int .i64 ((n.length : Int) - 1)] = frmV ((wk, (n.length : Int) - 1) :: t) := by
              rw [frmV_cons, frmV_cons, List.set_append_right _ _ (by rw [frmV_len]; exact Nat.le_refl _), frmV_len, Nat.sub_self]; rfl
            have hset2 : (frmV ((k, a) :: t)).set ((t.length : Nat) : Int).toNat [.int .i64 (wk, q2).1, .int .i64 ((n.length : Int) - 1)] = frmV ((wk, (n.length : Int) - 1) :: t) := hset
            rw [hset2]
            refine ⟨[], rfl, ?_⟩
            conv => whnf
            refine ⟨⟨⟩, rfl, ?_⟩
            conv => whnf
            refine ⟨⟨⟩, rfl, ?_⟩
            conv => whnf
            refine ⟨⟨⟩, rfl, ?_⟩
            conv => whnf
            exact ⟨⟨⟩, rfl, trivial⟩
        · rw [if_pos ha] at hU
          rw [ha]
          conv => whnf
          rw [hw2]
          refine callN [(0, 0), (1, 0), (2, 0), (3, 0)] (put_good q n ((k, a) :: t) ⟨k, zeroA, (n.length : Int) - 1, 0⟩ (by omega)) ?_
          conv => whnf
          refine ⟨⟨⟩, rfl, ?_⟩
          conv => whnf
          refine ⟨⟨⟩, rfl, ?_⟩
          conv => whnf
          refine ⟨⟨⟩, rfl, ?_⟩
          conv => whnf
          refine ⟨⟨⟩, rfl, ?_⟩
          conv => whnf
          refine ⟨true, trivial, ?_⟩
          conv => whnf
          refine ⟨⟨⟩, by dsimp only; rw [frmV_len, List.length_cons]; omega, ?_⟩
          conv => whnf
          refine ⟨t.length, by simp, t, n ++ [⟨k, zeroA, (n.length : Int) - 1, 0⟩], q, rfl, hq, by rw [List.length_append, List.length_cons, List.length_nil]; omega, hU, ?_⟩
          have htk : (frmV ((k, a) :: t)).take ((t.length : Nat) : Int).toNat = frmV t := by rw [frmV_cons, Int.toNat_natCast, List.take_append_of_le_length (by rw [frmV_len]; exact Nat.le_refl _), List.take_of_length_le (by rw [frmV_len]; exact Nat.le_refl _)]
          rw [htk]
        · rw [if_neg (by omega), if_pos ha] at hU
          rw [ha]
          conv => whnf
          refine callN [(1, 0)] (want_good q [41] hql) ?_ 
          conv => whnf
          refine ⟨⟨⟩, rfl, ?_⟩
          have hwl := Rd.want_l q 5 [41]
          conv => whnf
          rw [hw2]
          refine callN [(0, 0), (1, 0), (2, 0), (3, 0)] (put_good (q.want 5 [41]) n ((k, a) :: t) ⟨k, zeroA, a, (n.length : Int) - 1⟩ (by omega)) ?_
          conv => whnf
          refine ⟨⟨⟩, rfl, ?_⟩
          conv => whnf
          refine ⟨⟨⟩, rfl, ?_⟩
          conv => whnf
          refine ⟨⟨⟩, rfl, ?_⟩
          conv => whnf
          refine ⟨⟨⟩, rfl, ?_⟩
          conv => whnf
          refine ⟨true, trivial, ?_⟩
          conv => whnf
          refine ⟨⟨⟩, by dsimp only; rw [frmV_len, List.length_cons]; omega, ?_⟩
          conv => whnf
          refine ⟨t.length, by simp, t, n ++ [⟨k, zeroA, a, (n.length : Int) - 1⟩], q.want 5 [41], rfl, hwl.1.trans hq, by rw [List.length_append, List.length_cons, List.length_nil]; omega, hU, ?_⟩
          have htk : (frmV ((k, a) :: t)).take ((t.length : Nat) : Int).toNat = frmV t := by rw [frmV_cons, Int.toNat_natCast, List.take_append_of_le_length (by rw [frmV_len]; exact Nat.le_refl _), List.take_of_length_le (by rw [frmV_len]; exact Nat.le_refl _)]
          rw [htk]
        · have hU2 : (if (Rd.wordsR twosL q).1 = 0 then (true, (k, a) :: t, n, q.fail) else (false, ((Rd.wordsR twosL q).1, (n.length : Int) - 1) :: t, n, (Rd.wordsR twosL q).2)) = U := by rw [← hU, if_neg (show ¬ armsN k = 1 by omega), if_neg (show ¬ armsN k = 2 by omega)]
          rw [ha]
          conv => whnf
          refine call0 (twos_good) ?_
          conv => whnf
          refine callN [(0, 0), (1, 0), (2, 0), (3, 0), (3776, 0)] (words2_good q n ((k, a) :: t) hql) ?_
          conv => whnf
          refine ⟨⟨⟩, rfl, ?_⟩
          conv => whnf
          refine ⟨⟨⟩, rfl, ?_⟩
          conv => whnf
          refine ⟨⟨⟩, rfl, ?_⟩
          conv => whnf
          refine ⟨⟨⟩, rfl, ?_⟩
          conv => whnf
          refine ⟨⟨⟩, rfl, ?_⟩
          have hne := @Rd.wordsR_ne twosL q
          have hz := @Rd.wordsR_0 twosL q Rd.twos_ne
          generalize Rd.wordsR twosL q = w at *
          obtain ⟨wk, q2⟩ := w
          dsimp only at hne hz hU2
          conv => whnf
          refine branch_of (fun hk => ?_) (fun hk => ?_)
          · have hk2 : wk = 0 := of_decide_eq_true hk
            have := hz hk2
            subst this
            rw [if_pos hk2] at hU2
            subst hU2
            conv => whnf
            refine ⟨[], rfl, ?_⟩
            conv => whnf
            refine ⟨⟨⟩, rfl, ?_⟩
            conv => whnf
            refine ⟨⟨⟩, rfl, ?_⟩
            conv => whnf
            refine ⟨⟨⟩, rfl, ?_⟩
            conv => whnf
            exact ⟨⟨⟩, rfl, trivial⟩
          · have hk2 : ¬ wk = 0 := of_decide_eq_false hk
            rw [if_neg hk2] at hU2
            subst hU2
            conv => whnf
            rw [hw2]
            refine ⟨⟨⟩, by dsimp only; rw [frmV_len, List.length_cons]; omega, ?_⟩
            conv => whnf
            refine ⟨_, hrow, ?_⟩
            conv => whnf
            have hset : (frmV ((k, a) :: t)).set t.length [.int .i64 wk, .int .i64 ((n.length : Int) - 1)] = frmV ((wk, (n.length : Int) - 1) :: t) := by
              rw [frmV_cons, frmV_cons, List.set_append_right _ _ (by rw [frmV_len]; exact Nat.le_refl _), frmV_len, Nat.sub_self]; rfl
            have hset2 : (frmV ((k, a) :: t)).set ((t.length : Nat) : Int).toNat [.int .i64 (wk, q2).1, .int .i64 ((n.length : Int) - 1)] = frmV ((wk, (n.length : Int) - 1) :: t) := hset
            rw [hset2]
            refine ⟨[], rfl, ?_⟩
            conv => whnf
            refine ⟨⟨⟩, rfl, ?_⟩
            conv => whnf
            refine ⟨⟨⟩, rfl, ?_⟩
            conv => whnf
            refine ⟨⟨⟩, rfl, ?_⟩
            conv => whnf
            exact ⟨⟨⟩, rfl, trivial⟩
end Go.PV
namespace Go.PV
open Go Go.Proofs
set_option maxRecDepth 100000
theorem formula_good (r : Rd) (hb : tokB r.l) (hv : Iv r) : Good Tryz.prog 90 [.ptr 0 0 0] [.box 0 [.ptr 1 0 0, .nil, .nil], r.ob] [.own 2 0] [rdsO, r.formula.2.2.ob, arrN r.formula.2.1, arrF r.formula.1] := by
  have hl := hb.1
  have hvle := hv.le
  refine good_of hP Tryz.func90 (by kernel_rfl) (lv := [0, 2, 3, 12]) (js := []) ⟨rfl, rfl, rfl, rfl, rfl, rfl, _, rfl, ?_⟩
  generalize hU : r.formula = U
  unfold Rd.formula at hU
  conv => whnf
  refine loop_of hP [0, 2, 3, 12] [] [0, 3] [0, 1, 100001, 100002] [.cell 0 1 5, .cell 0 2 2] (fun m s => ∃ (f : Nat) (q : Rd) (t : List Frm) (n : List Nod) (done : Bool), (if done then 0 else f + 1) = m ∧ q.l = r.l ∧ Iv q ∧ (done = false → Rd.forG f q t n = U ∧ n.length + t.length ≤ q.i ∧ r.l.length < f + q.i) ∧ (done = true → (t, n, q) = U) ∧
    s = ⟨[(0, .ptr 0 0 0), (3, .bool done)], [(0, .box 0 [.ptr 1 0 0, .own 100001 0, .own 100002 0]), (1, q.ob), (100001, arrN n), (100002, arrF t)]⟩) (r.l.length + 2) ?_ ?_
  · conv => whnf
    exact ⟨r.l.length + 1, r, [], [], false, rfl, rfl, hv, (fun _ => ⟨hU, Nat.zero_le _, by omega⟩), (fun h => by cases h), rfl⟩
  · rintro m s ⟨f, q, t, n, done, rfl, hq, hvq, h1, h2, rfl⟩
    have hvle := hvq.le
    rw [hq] at hvle
    have hbq : tokB q.l := by rw [hq]; exact hb
    cases done with
    | true =>
      have hU := h2 rfl
      subst hU
      conv => whnf
      refine ⟨[(100001, 0), (100002, 0)], rfl, ?_⟩
      conv => whnf
      refine ⟨⟨⟩, rfl, ?_⟩
      conv => whnf
      refine ⟨⟨⟩, rfl, ?_⟩
      conv => whnf
      refine ⟨⟨⟩, rfl, ?_⟩
      conv => whnf
      exact ⟨⟨⟩, rfl, trivial⟩
    | false =>
      obtain ⟨hU, hs, hf⟩ := h1 rfl
      conv => whnf
      refine callN [(1, 0)] (open_good q) ?_ 
      conv => whnf
      refine ⟨⟨⟩, rfl, ?_⟩
      cases ho : q.isOpen with
      | false =>
        have hU2 : Rd.forG f q t n = (t, n, q) := by
          cases f with
          | zero => rfl
          | succ f => rw [Rd.forG, if_neg (by rw [ho]; simp)]
        rw [hU2] at hU
        subst hU
        conv => whnf
        refine ⟨[(100001, 0), (100002, 0)], rfl, ?_⟩
        conv => whnf
        refine ⟨⟨⟩, rfl, ?_⟩
        conv => whnf
        refine ⟨⟨⟩, rfl, ?_⟩
        conv => whnf
        refine ⟨⟨⟩, rfl, ?_⟩
        conv => whnf
        exact ⟨⟨⟩, rfl, trivial⟩
      | true =>
        obtain ⟨f, rfl⟩ : ∃ g, f = g + 1 := ⟨f - 1, by omega⟩
        rw [Rd.forG, if_pos ho] at hU
        dsimp only at hU
        have hvb := Iv.beg (q.l.length + 1) t hvq
        have hbs := Rd.beg_st (q.l.length + 1) q t
        have hbl := Rd.beg_l (q.l.length + 1) q t
        conv => whnf
        refine callN [(0, 0), (1, 0), (100001, 0), (100002, 0)] (begins_good q n t hbq.1 (by omega)) ?_
        conv => whnf
        refine ⟨⟨⟩, rfl, ?_⟩
        conv => whnf
        refine ⟨⟨⟩, rfl, ?_⟩
        conv => whnf
        refine ⟨⟨⟩, rfl, ?_⟩
        conv => whnf
        refine ⟨⟨⟩, rfl, ?_⟩
        generalize Rd.beg (q.l.length + 1) q t = b at *
        obtain ⟨t2, q2⟩ := b
        obtain ⟨hbl1, hbl2⟩ := hbl
        dsimp only at hvb hbs hbl1 hbl2 hU
        have hb2 : tokB q2.l := by rw [hbl1]; exact hbq
        have hva := hvb.atom
        have hal := Rd.atom_l q2
        have hao := @Rd.atom_open q2
        have hle2 := hvb.le
        rw [hbl1, hq] at hle2
        conv => whnf
        refine callN [(1, 0)] (ratom_good q2 hb2) ?_ 
        conv => whnf
        refine ⟨⟨⟩, rfl, ?_⟩
        generalize q2.atom = x at *
        obtain ⟨a, q3⟩ := x
        obtain ⟨hal1, hal2⟩ := hal
        dsimp only at hva hal1 hal2 hao hU
        have hle3 := hva.le
        rw [hal1, hbl1, hq] at hle3
        conv => whnf
        refine callN [(0, 0), (1, 0), (100001, 1), (100002, 1)] (put_good q3 n t2 ⟨1, a, 0, 0⟩ (by omega)) ?_
        conv => whnf
        refine ⟨⟨⟩, rfl, ?_⟩
        conv => whnf
        refine ⟨⟨⟩, rfl, ?_⟩
        conv => whnf
        refine ⟨⟨⟩, rfl, ?_⟩
        conv => whnf
        refine ⟨⟨⟩, rfl, ?_⟩
        have hcl := Rd.clo_len t2 (n ++ [⟨1, a, 0, 0⟩]) q3
        have hco := @Rd.clo_open t2 (n ++ [⟨1, a, 0, 0⟩]) q3
        have hcf := Rd.clo_false t2 (n ++ [⟨1, a, 0, 0⟩]) q3
        have hcll := Rd.clo_l t2 (n ++ [⟨1, a, 0, 0⟩]) q3
        have hcv := Iv.clo t2 (n ++ [⟨1, a, 0, 0⟩]) hva
        rw [List.length_append, List.length_cons, List.length_nil] at hcl
        conv => whnf
        refine callN [(0, 0), (1, 0), (100001, 2), (100002, 2)] (closes_good q3 (n ++ [⟨1, a, 0, 0⟩]) t2 (by rw [hal1]; exact hb2.1) (by rw [List.length_append, List.length_cons, List.length_nil]; omega)) ?_
        conv => whnf
        refine ⟨⟨⟩, rfl, ?_⟩
        conv => whnf
        refine ⟨⟨⟩, rfl, ?_⟩
        conv => whnf
        refine ⟨⟨⟩, rfl, ?_⟩
        conv => whnf
        refine ⟨⟨⟩, rfl, ?_⟩
        generalize Rd.clo t2 (n ++ [⟨1, a, 0, 0⟩]) q3 = c at *
        obtain ⟨cd, ct, cn, cq⟩ := c
        obtain ⟨hcll1, hcll2⟩ := hcll
        dsimp only at hcl hco hcf hcll1 hcll2 hcv hU
        have hcq : cq.l = r.l := by rw [hcll1, hal1, hbl1, hq]
        cases cd with
        | true =>
          rw [if_pos rfl] at hU
          conv => whnf
          exact ⟨0, by simp, f, cq, ct, cn, true, rfl, hcq, hcv, (fun h => by cases h), (fun _ => hU), rfl⟩
        | false =>
          rw [if_neg (by simp)] at hU
          have hup := (hao (hco (hcf rfl))).2.2.1
          conv => whnf
          exact ⟨f + 1, by simp, f, cq, ct, cn, false, rfl, hcq, hcv, (fun _ => ⟨hU, by omega, by omega⟩), (fun h => by cases h), rfl⟩
theorem fright_good (p : Pat) (hn : p.n.length ≤ 1000000) (ht : atmB p.t) (hl : p.l.length ≤ 1000000) (hb : ∀ o ∈ p.l, nodB o) : Good Tryz.prog 87 [.agg p.v] [] [.bool (patOk p)] [] := by
  obtain ⟨n, t, l⟩ := p
  refine good_of hP Tryz.func87 (by kernel_rfl) (lv := [0, 1, 2]) (js := []) ⟨rfl, rfl, rfl, rfl, rfl, rfl, _, rfl, ?_⟩
  unfold patOk
  dsimp only at *
  conv => whnf
  refine call0 (fname_good n hn) ?_
  cases nameS n with
  | false =>
    rw [Bool.false_and]
    conv => whnf
    exact fin0 rfl trivial
  | true =>
  rw [Bool.true_and]
  conv => whnf
  refine call0 (mcheck_good t ht) ?_
  cases atomOk t with
  | false =>
    rw [Bool.false_and]
    conv => whnf
    exact fin0 rfl trivial
  | true =>
  rw [Bool.true_and]
  conv => whnf
  refine call0 (fcheck_good l hl hb) ?_
  cases fmlOk l with
  | false =>
    conv => whnf
    exact fin0 rfl trivial
  | true =>
    conv => whnf
    exact fin0 rfl trivial
theorem ftext_good (l : List Nod) (hl : l.length ≤ 1000000) (hb : ∀ o ∈ l, nodB o) : Good Tryz.prog 30 [.sl 5 (nodV l)] [] [.str (fmlX l), .int .i64 (fmlE l)] [] := by
  refine good_of hP Tryz.func30 (by kernel_rfl) (lv := [0, 2, 3, 4, 8]) (js := []) ⟨rfl, rfl, rfl, rfl, rfl, rfl, _, rfl, ?_⟩
  unfold fmlX fmlE
  conv => whnf
  refine call0 (fcheck_good l hl hb) ?_
  cases hk : fmlOk l with
  | false =>
    rw [if_neg (by simp), if_neg (by simp)]
    conv => whnf
    exact fin0 rfl trivial
  | true =>
    have := fmlT_len hk
    rw [if_pos rfl]
    conv => whnf
    refine call0 (ftx_good l hl hb hk) ?_
    conv => whnf
    refine call0 (limited_good (fmlT l) (by omega)) ?_
    generalize fmlT l = s at *
    by_cases h : 20000 < s.length
    · rw [if_pos h, if_pos h, if_neg (by simp)]
      conv => whnf
      exact fin0 rfl trivial
    · rw [if_neg h, if_neg h, if_pos rfl]
      conv => whnf
      exact fin0 rfl trivial
theorem fpattern_good (p : Pat) (hn : p.n.length ≤ 1000000) (ht : atmB p.t) (hl : p.l.length ≤ 1000000) (hb : ∀ o ∈ p.l, nodB o) : Good Tryz.prog 37 [.agg p.v] [] [.str (patX p), .int .i64 (patE p)] [] := by
  have hr := fright_good p hn ht hl hb
  refine good_of hP Tryz.func37 (by kernel_rfl) (lv := [0, 1, 2, 3, 4, 8]) (js := []) ⟨rfl, rfl, rfl, rfl, rfl, rfl, _, rfl, ?_⟩
  unfold patX patE
  conv => whnf
  refine call0 (hr) ?_
  cases hk : patOk p with
  | false =>
    rw [if_neg (by simp), if_neg (by simp)]
    conv => whnf
    exact fin0 rfl trivial
  | true =>
    obtain ⟨h1, h2, h3⟩ := patOk_all hk
    obtain ⟨l1, l2, l3, l4, l5⟩ := patT_len hk
    rw [if_pos rfl]
    have hT : patT p = patW ++ [32] ++ p.n ++ [58, 32] ++ atomT p.t ++ [32, 61, 62, 32] ++ fmlT p.l ++ [46] := rfl
    obtain ⟨n, t, l⟩ := p
    dsimp only at *
    conv => whnf
    refine call0 (atomText_good t ht) ?_
    rw [h2, if_pos rfl]
    conv => whnf
    refine ⟨⟨⟩, by show 8 + n.length ≤ 9223372036854775807; omega, ?_⟩
    conv => whnf
    refine ⟨⟨⟩, by show ([112, 97, 116, 116, 101, 114, 110, 32] ++ n : Bs).length + 2 ≤ 9223372036854775807; simp only [List.length_append, List.length_cons, List.length_nil]; omega, ?_⟩
    conv => whnf
    refine ⟨⟨⟩, by show ([112, 97, 116, 116, 101, 114, 110, 32] ++ n ++ [58, 32] : Bs).length + (atomT t).length ≤ 9223372036854775807; simp only [List.length_append, List.length_cons, List.length_nil]; omega, ?_⟩
    conv => whnf
    refine ⟨⟨⟩, by show ([112, 97, 116, 116, 101, 114, 110, 32] ++ n ++ [58, 32] ++ atomT t : Bs).length + 4 ≤ 9223372036854775807; simp only [List.length_append, List.length_cons, List.length_nil]; omega, ?_⟩
    conv => whnf
    refine call0 (ftx_good l hl hb h3) ?_
    conv => whnf
    refine ⟨⟨⟩, by show ([112, 97, 116, 116, 101, 114, 110, 32] ++ n ++ [58, 32] ++ atomT t ++ [32, 61, 62, 32] : Bs).length + (fmlT l).length ≤ 9223372036854775807; simp only [List.length_append, List.length_cons, List.length_nil]; omega, ?_⟩
    conv => whnf
    refine ⟨⟨⟩, by show ([112, 97, 116, 116, 101, 114, 110, 32] ++ n ++ [58, 32] ++ atomT t ++ [32, 61, 62, 32] ++ fmlT l : Bs).length + 1 ≤ 9223372036854775807; simp only [List.length_append, List.length_cons, List.length_nil]; omega, ?_⟩
    conv => whnf
    refine call0 (limited_good (patT ⟨n, t, l⟩) (by omega)) ?_
    conv => whnf
    refine ⟨by kernel_rfl, ?_⟩
    conv => whnf
    generalize patT ⟨n, t, l⟩ = s at *
    by_cases h : 20000 < s.length
    · rw [if_pos h, if_pos h, if_neg (by simp)]
      exact fin0 rfl trivial
    · rw [if_neg h, if_neg h, if_pos rfl]
      exact fin0 rfl trivial
end Go.PV
namespace Go.PV
open Go Go.Proofs
set_option maxRecDepth 100000
theorem readF_good (l : List Tok) (i : Nat) (hb : tokB l) (hs5 : l.length + 1 ≤ 1000000) (hi : i ≤ l.length) : Good Tryz.prog 38 [.sl 4 (toksV l), .int .i64 i] [] [.sl 5 (nodV (readF l i).1), .int .i64 (readF l i).2.1, .int .i64 (readF l i).2.2] [] := by
  have hv : Iv (rd0 l i) := ⟨hi, fun h => by cases h⟩
  obtain ⟨hfl, hfb⟩ := Rd.formula_b hv
  refine good_of hP Tryz.func38 (by kernel_rfl) (lv := [0, 1, 4, 5, 6, 7, 8, 16, 38, 41]) (js := []) ⟨rfl, rfl, rfl, rfl, rfl, rfl, _, rfl, ?_⟩
  unfold readF
  dsimp only
  conv => whnf
  refine call0 ((begin_good l i hb.1).1 (by omega)) ?_
  rw [Int.toNat_natCast]
  conv => whnf
  refine callN [(84, 0), (1792, 0)] (formula_good (rd0 l i) hb hv) ?_
  conv => whnf
  refine ⟨⟨⟩, rfl, ?_⟩
  conv => whnf
  refine ⟨⟨⟩, rfl, ?_⟩
  generalize (rd0 l i).formula = x at *
  obtain ⟨st, n, r⟩ := x
  dsimp only at hfl hfb
  have hfl : n.length ≤ 1000000 := Nat.le_trans hfl hs5
  conv => whnf
  refine callN [(1792, 0)] (end_good r i) ?_ 
  conv => whnf
  refine ⟨⟨⟩, rfl, ?_⟩
  conv => whnf
  refine branch_of (fun h => ?_) (fun h => ?_)
  · have h : r.endE = 0 := of_decide_eq_true h
    rw [if_pos h]
    conv => whnf
    refine call0 (fcheck_good n hfl hfb) ?_
    cases hk : fmlOk n with
    | true =>
      rw [if_pos rfl, h]
      conv => whnf
      exact fin0 rfl trivial
    | false =>
      rw [if_neg (by simp)]
      conv => whnf
      exact fin0 rfl trivial
  · have h : ¬ r.endE = 0 := of_decide_eq_false h
    have e7 : r.endE = 7 := by
      unfold Rd.endE at *
      split at h
      · rename_i hc; rw [if_pos hc]
      · exact absurd rfl h
    rw [if_neg h, e7]
    conv => whnf
    exact fin0 rfl trivial
theorem readF_bad (l : List Tok) (i : Int) (hl : l.length ≤ 1000000) (hi : ¬ (0 ≤ i ∧ i ≤ l.length)) : Good Tryz.prog 38 [.sl 4 (toksV l), .int .i64 i] [] [.sl 5 [], .int .i64 0, .int .i64 1] [] := by
  refine good_of hP Tryz.func38 (by kernel_rfl) (lv := [0, 1, 4, 5, 6, 7, 8, 16, 38, 41]) (js := []) ⟨rfl, rfl, rfl, rfl, rfl, rfl, _, rfl, ?_⟩
  conv => whnf
  refine call0 ((begin_good l i hl).2 hi) ?_
  conv => whnf
  exact fin0 rfl trivial
theorem readP_good (l : List Tok) (i : Nat) (hb : tokB l) (hs5 : l.length + 1 ≤ 1000000) (hi : i ≤ l.length) : Good Tryz.prog 39 [.sl 4 (toksV l), .int .i64 i] [] [.agg (readP l i).1.v, .int .i64 (readP l i).2.1, .int .i64 (readP l i).2.2] [] := by
  have hv : Iv (rd0 l i) := ⟨hi, fun h => by cases h⟩
  refine good_of hP Tryz.func39 (by kernel_rfl) (lv := [0, 1, 4, 5, 6, 7, 8, 16, 72, 75]) (js := []) ⟨rfl, rfl, rfl, rfl, rfl, rfl, _, rfl, ?_⟩
  unfold readP
  dsimp only
  have hX : patR (rd0 l i) = patR (rd0 l i) := rfl
  generalize hXX : patR (rd0 l i) = X
  unfold patR at hXX
  dsimp only at hXX
  conv => whnf
  refine call0 ((begin_good l i hb.1).1 (by omega)) ?_
  rw [Int.toNat_natCast]
  conv => whnf
  refine callN [(1792, 0)] (ask_good (rd0 l i) patW hb.1) ?_ 
  conv => whnf
  refine ⟨⟨⟩, rfl, ?_⟩
  have v0 := hv.want 1 patW
  have e0 := Rd.want_l (rd0 l i) 1 patW
  generalize (rd0 l i).want 1 patW = r0 at *
  have b0 : tokB r0.l := by rw [e0.1]; exact hb
  conv => whnf
  refine callN [(1792, 0)] (rname_good r0 b0.1 (fun t h => Nat.le_trans (b0.2 t h) (by omega))) ?_ 
  conv => whnf
  refine ⟨⟨⟩, rfl, ?_⟩
  have v1 := v0.name
  have s1 := Rd.name_s r0
  have e1 := Rd.name_l r0
  generalize r0.name = r1 at *
  have b1 : tokB r1.2.l := by rw [e1.1]; exact b0
  conv => whnf
  refine callN [(1792, 0)] (want_good r1.2 [58] b1.1) ?_ 
  conv => whnf
  refine ⟨⟨⟩, rfl, ?_⟩
  have v2 := v1.want 5 [58]
  have e2 := Rd.want_l r1.2 5 [58]
  generalize r1.2.want 5 [58] = r2 at *
  have b2 : tokB r2.l := by rw [e2.1]; exact b1
  conv => whnf
  refine callN [(1792, 0)] (ratom_good r2 b2) ?_ 
  conv => whnf
  refine ⟨⟨⟩, rfl, ?_⟩
  have v3 := v2.atom
  have s3 := Rd.atom_s r2
  have e3 := Rd.atom_l r2
  generalize r2.atom = r3 at *
  have b3 : tokB r3.2.l := by rw [e3.1]; exact b2
  conv => whnf
  refine callN [(1792, 0)] (want_good r3.2 [61, 62] b3.1) ?_ 
  conv => whnf
  refine ⟨⟨⟩, rfl, ?_⟩
  have v4 := v3.want 5 [61, 62]
  have e4 := Rd.want_l r3.2 5 [61, 62]
  generalize r3.2.want 5 [61, 62] = r4 at *
  have b4 : tokB r4.l := by rw [e4.1]; exact b3
  conv => whnf
  refine callN [(85, 0), (1792, 0)] (formula_good r4 b4 v4) ?_
  conv => whnf
  refine ⟨⟨⟩, rfl, ?_⟩
  conv => whnf
  refine ⟨⟨⟩, rfl, ?_⟩
  obtain ⟨hfl, hfb⟩ := Rd.formula_b v4
  have e5 := Rd.formula_l r4
  generalize r4.formula = x at *
  obtain ⟨st, n, r5⟩ := x
  dsimp only at hfl hfb e5 hXX
  have hl4 : r4.l = l := by rw [e4.1, e3.1, e2.1, e1.1, e0.1]
  have hfl : n.length ≤ 1000000 := by rw [hl4] at hfl; exact Nat.le_trans hfl hs5
  have b5 : tokB r5.l := by rw [e5.1]; exact b4
  conv => whnf
  refine callN [(1792, 0)] (want_good r5 [46] b5.1) ?_ 
  conv => whnf
  refine ⟨⟨⟩, rfl, ?_⟩
  generalize r5.want 5 [46] = r6 at *
  conv => whnf
  refine callN [(1792, 0)] (end_good r6 i) ?_ 
  conv => whnf
  refine ⟨⟨⟩, rfl, ?_⟩
  subst hXX
  dsimp only
  conv => whnf
  refine branch_of (fun h => ?_) (fun h => ?_)
  · have h : r6.endE = 0 := of_decide_eq_true h
    rw [if_pos h]
    conv => whnf
    refine call0 (fright_good ⟨r1.1, r3.1, n⟩ s1 s3 hfl hfb) ?_
    cases hk : patOk ⟨r1.1, r3.1, n⟩ with
    | true =>
      rw [if_pos rfl, h]
      conv => whnf
      exact fin0 rfl trivial
    | false =>
      rw [if_neg (by simp)]
      conv => whnf
      exact fin0 rfl trivial
  · have h : ¬ r6.endE = 0 := of_decide_eq_false h
    have e7 : r6.endE = 7 := by
      unfold Rd.endE at *
      split at h
      · rename_i hc; rw [if_pos hc]
      · exact absurd rfl h
    rw [if_neg h, e7]
    conv => whnf
    exact fin0 rfl trivial
theorem readP_bad (l : List Tok) (i : Int) (hl : l.length ≤ 1000000) (hi : ¬ (0 ≤ i ∧ i ≤ l.length)) : Good Tryz.prog 39 [.sl 4 (toksV l), .int .i64 i] [] [.agg zeroP.v, .int .i64 0, .int .i64 1] [] := by
  refine good_of hP Tryz.func39 (by kernel_rfl) (lv := [0, 1, 4, 5, 6, 7, 8, 16, 72, 75]) (js := []) ⟨rfl, rfl, rfl, rfl, rfl, rfl, _, rfl, ?_⟩
  conv => whnf
  refine call0 ((begin_good l i hl).2 hi) ?_
  conv => whnf
  exact fin0 rfl trivial
end Go.PV
namespace Go.PV
open Go
/-! the pattern of law 12's wakes -/
def p12 : Pat := ⟨[97], ⟨[114], [⟨[88], zeroV⟩]⟩, [⟨1, ⟨[112], [⟨[88], zeroV⟩]⟩, 0, 0⟩, ⟨2, zeroA, 0, 0⟩, ⟨1, ⟨[113], [⟨[88], zeroV⟩]⟩, 0, 0⟩, ⟨8, zeroA, 1, 2⟩]⟩
def w12 : Bs := [112, 97, 116, 116, 101, 114, 110, 32, 97, 58, 32, 114, 40, 88, 41, 32, 61, 62, 32, 40, 110, 111, 116, 32, 112, 40, 88, 41, 32, 115, 105, 110, 99, 101, 32, 113, 40, 88, 41, 41, 46]
theorem p12_ok : patOk p12 = true := by decide +kernel
theorem p12_T : patT p12 = w12 := by decide +kernel
theorem p12_X : patX p12 = w12 ∧ patE p12 = 0 := by decide +kernel
theorem p12_F : fmlX p12.l = [40, 110, 111, 116, 32, 112, 40, 88, 41, 32, 115, 105, 110, 99, 101, 32, 113, 40, 88, 41, 41] ∧ fmlE p12.l = 0 := by decide +kernel
theorem p12_N : fromN p12.l 1 = 0 ∧ fromN p12.l 2 = 2 := by decide +kernel
theorem nodes_eq {a b : List Nod} (hl : a.length = b.length) (h : ∀ (j : Nat) (h1 : j < a.length) (h2 : j < b.length), a[j] = b[j]) : a = b := List.ext_getElem hl fun j h1 h2 => h j h1 h2
end Go.PV
namespace Go.PV
open Go
/-! long regions, piece by piece (the kernel looks at the rest of a piece under its binder) -/
theorem Pr.wp_mono : ∀ (p : Pr) {s : St} {A B : List Loc} {K1 K2 : St → List Loc → List Loc → Prop}, (∀ s A B, K1 s A B → K2 s A B) → p.wp s A B K1 → p.wp s A B K2 := by
  intro p
  induction p with
  | done => intro s A B K1 K2 hk h; exact hk _ _ _ h
  | fail => intro s A B K1 K2 hk h; exact h
  | get t k ih => intro s A B K1 K2 hk h; simp only [Pr.wp, forceW_eq] at h ⊢; exact ih _ hk h
  | put t v k ih => intro s A B K1 K2 hk h; simp only [Pr.wp, St.putP_eq] at h ⊢; exact ih hk h
  | getO id k ih => intro s A B K1 K2 hk h; exact ih _ hk h
  | putO id o k ih => intro s A B K1 K2 hk h; simp only [Pr.wp, St.putOP_eq] at h ⊢; exact ih hk h
  | brs t p q ihp ihq =>
    intro s A B K1 K2 hk h
    simp only [Pr.wp] at h ⊢
    split at h
    · rename_i b hb
      simp only [St.putP_eq] at h ⊢
      cases b with
      | true => exact ihp hk h
      | false => exact ihq hk h
    · exact h.elim
  | ex β φ k ih => intro s A B K1 K2 hk h; obtain ⟨b, hb, h⟩ := h; exact ⟨b, hb, ih _ hk h⟩
end Go.PV
namespace Go.PV
open Go Go.Proofs
set_option maxRecDepth 100000
def nodsH (l : List Nod) : Bool := decide (60 < l.length) || l.any fun o => atmH o.a
def patH (p : Pat) : Bool := decide (200 < p.n.length) || (atmH p.t || nodsH p.l)
theorem atmH_B2 {a : Atm} (h : atmH a = false) : a.n.length ≤ 200 ∧ a.a.length ≤ 20 ∧ ∀ t ∈ a.a, t.v.length ≤ 200 ∧ t.x.s.length ≤ 200 := by
  unfold atmH trmH at h
  simp at h
  exact ⟨by omega, by omega, fun t ht => by have := h.2 t ht; exact ⟨by omega, by omega⟩⟩
theorem atmH_N {a : Atm} (h : atmH a = false) : a.n.length ≤ 1000000 ∧ a.a.length ≤ 1000000 ∧ ∀ t ∈ a.a, t.v.length ≤ 1000000 ∧ t.x.s.length ≤ 1000000 := by
  obtain ⟨h1, h2, h3⟩ := atmH_B2 h
  exact ⟨by omega, by omega, fun t ht => by have := h3 t ht; exact ⟨by omega, by omega⟩⟩
theorem nodsH_B {l : List Nod} (h : nodsH l = false) : l.length ≤ 60 ∧ ∀ o ∈ l, nodB o := by
  unfold nodsH at h
  simp only [Bool.or_eq_false_iff, decide_eq_false_iff_not, List.any_eq_false] at h
  exact ⟨by omega, fun o ho => atmH_N (by simpa using h.2 o ho)⟩
theorem patH_B {p : Pat} (h : patH p = false) : p.n.length ≤ 1000000 ∧ (p.t.n.length ≤ 1000000 ∧ p.t.a.length ≤ 1000000 ∧ ∀ t ∈ p.t.a, t.v.length ≤ 1000000 ∧ t.x.s.length ≤ 1000000) ∧ p.l.length ≤ 1000000 ∧ ∀ o ∈ p.l, nodB o := by
  unfold patH at h
  simp only [Bool.or_eq_false_iff, decide_eq_false_iff_not] at h
  obtain ⟨q1, q2⟩ := nodsH_B h.2.2
  exact ⟨by omega, atmH_N h.2.1, by omega, q2⟩
theorem heavyN_good (l : List Nod) : Good Tryz.prog 25 [.sl 5 (nodV l)] [] [.bool (nodsH l)] [] := by
  have hll : (nodV l).length = l.length := List.length_map _
  refine good_of hP Tryz.func25 (by kernel_rfl) (lv := [0, 2, 3, 6, 10, 18]) (js := []) ⟨rfl, rfl, rfl, rfl, rfl, rfl, _, rfl, ?_⟩
  unfold nodsH
  conv => whnf
  refine branch_of (fun h => ?_) (fun h => ?_)
  · have h := of_decide_eq_true h
    rw [hll] at h
    have h : 60 < l.length := by omega
    conv => whnf
    exact fin0 (by simp [h]) trivial
  have h := of_decide_eq_false h
  rw [hll] at h
  have h2 : ¬ 60 < l.length := by omega
  rw [decide_eq_false h2]
  conv => whnf
  refine loop_of hP [0, 2, 3, 6, 10, 18] [] [0, 3] [] [] (fun n st => ∃ k : Nat, n = l.length - k ∧ k ≤ l.length ∧ (l.any fun o => atmH o.a) = ((l.drop k).any fun o => atmH o.a) ∧ st = ⟨[(0, .sl 5 (nodV l)), (3, .int .i64 k)], []⟩) l.length ?_ ?_
  · conv => whnf
    exact ⟨0, rfl, Nat.zero_le _, rfl, rfl⟩
  · rintro n st ⟨k, rfl, hk, he, rfl⟩
    conv => whnf
    refine branch_of (fun h => ?_) (fun h => ?_)
    · have h := of_decide_eq_true h
      rw [hll] at h
      have hk' : k < l.length := by omega
      rw [anyL_step hk'] at he
      conv => whnf
      refine ⟨Nod.c l[k], idxM hk' rfl, ?_⟩
      conv => whnf
      refine call0 (heavyA_good l[k].a) ?_
      cases hc : atmH l[k].a with
      | true =>
        rw [hc, Bool.true_or] at he
        rw [he]
        conv => whnf
        exact fin0 rfl trivial
      | false =>
        rw [hc, Bool.false_or] at he
        conv => whnf
        refine ⟨l.length - (k + 1), by omega, k + 1, rfl, by omega, he, ?_⟩
        rw [wr (by omega) (by omega)]; rfl
    · have h := of_decide_eq_false h
      rw [hll] at h
      rw [anyL_end (by omega)] at he
      rw [he]
      conv => whnf
      exact fin0 rfl trivial
theorem heavyP_good (p : Pat) : Good Tryz.prog 35 [.agg p.v] [] [.bool (patH p)] [] := by
  obtain ⟨n, t, l⟩ := p
  refine good_of hP Tryz.func35 (by kernel_rfl) (lv := [0, 1, 2]) (js := []) ⟨rfl, rfl, rfl, rfl, rfl, rfl, _, rfl, ?_⟩
  unfold patH
  dsimp only
  conv => whnf
  refine branch_of (fun h => ?_) (fun h => ?_)
  · have h : 200 < n.length := by have := of_decide_eq_true h; dsimp only at this; omega
    rw [show decide (200 < n.length) = true from decide_eq_true h]
    conv => whnf
    exact fin0 rfl trivial
  have h1 : ¬ 200 < n.length := by have := of_decide_eq_false h; dsimp only at this; omega
  rw [show decide (200 < n.length) = false from decide_eq_false h1]
  conv => whnf
  refine call0 (heavyA_good t) ?_
  cases atmH t with
  | true =>
    conv => whnf
    exact fin0 rfl trivial
  | false =>
    conv => whnf
    refine call0 (heavyN_good l) ?_
    conv => whnf
    exact fin0 rfl trivial
theorem keepNodes_good (a b : List Nod) (ha : a.length ≤ 1000000) (hb : ∀ o ∈ a, nodB o) : Good Tryz.prog 42 [.sl 5 (nodV a), .sl 5 (nodV b)] [] [.bool (decide (a = b))] [] := by
  have hla : (nodV a).length = a.length := List.length_map _
  have hlb : (nodV b).length = b.length := List.length_map _
  refine good_of hP Tryz.func42 (by kernel_rfl) (lv := [0, 1, 4, 5, 10, 14, 67]) (js := []) ⟨rfl, rfl, rfl, rfl, rfl, rfl, _, rfl, ?_⟩
  conv => whnf
  refine branch_of (fun h => ?_) (fun h => ?_)
  · rw [Bool.not_eq_true'] at h
    have h := of_decide_eq_false h
    rw [hla, hlb] at h
    conv => whnf
    exact fin0 (by rw [decide_eq_false (fun e => h (by rw [e]))]) trivial
  rw [Bool.not_eq_false'] at h
  have h := of_decide_eq_true h
  rw [hla, hlb] at h
  have hl : a.length = b.length := by omega
  conv => whnf
  refine loop_of hP [0, 1, 4, 5, 10, 14, 67] [] [0, 1, 5] [] [] (fun n st => ∃ k : Nat, n = a.length - k ∧ k ≤ a.length ∧ (∀ j (h1 : j < a.length) (h2 : j < b.length), j < k → a[j] = b[j]) ∧ st = ⟨[(0, .sl 5 (nodV a)), (1, .sl 5 (nodV b)), (5, .int .i64 k)], []⟩) a.length ?_ ?_
  · conv => whnf
    exact ⟨0, rfl, Nat.zero_le _, fun j _ _ h => by omega, rfl⟩
  · rintro n st ⟨k, rfl, hk, hn, rfl⟩
    conv => whnf
    refine branch_of (fun h => ?_) (fun h => ?_)
    · have h := of_decide_eq_true h
      rw [hla] at h
      have h1 : k < a.length := by omega
      have h2 : k < b.length := by omega
      have hne : a[k] ≠ b[k] → decide (a = b) = false := fun hq => decide_eq_false fun e => by subst e; exact hq rfl
      have r1 := idxM (f := Nod.c) h1 (rfl : ((k : Nat) : Int) = k)
      have r2 := idxM (f := Nod.c) h2 (rfl : ((k : Nat) : Int) = k)
      have hbk := hb _ (List.getElem_mem h1)
      have hsame : a[k] = b[k] → ∀ j (h1 : j < a.length) (h2 : j < b.length), j < k + 1 → a[j] = b[j] := fun e j q1 q2 q3 => by
        by_cases e2 : j = k
        · subst e2; exact e
        · exact hn j q1 q2 (by omega)
      generalize a[k] = x at *
      generalize b[k] = y at *
      obtain ⟨xk, xa, xx, xy⟩ := x
      obtain ⟨yk, ya, yx, yy⟩ := y
      conv => whnf
      refine ⟨_, r1, ?_⟩
      conv => whnf
      refine ⟨_, r2, ?_⟩
      conv => whnf
      refine branch_of (fun g1 => ?_) (fun g1 => ?_)
      · rw [Bool.not_eq_true'] at g1
        have g1 : ¬ xk = yk := of_decide_eq_false g1
        rw [hne (fun e => g1 (by injection e))]
        conv => whnf
        refine ⟨by kernel_rfl, ?_⟩
        conv => whnf
        exact fin0 rfl trivial
      rw [Bool.not_eq_false'] at g1
      have g1 : xk = yk := of_decide_eq_true g1
      conv => whnf
      refine ⟨_, r1, ?_⟩
      conv => whnf
      refine ⟨_, r2, ?_⟩
      conv => whnf
      refine branch_of (fun g2 => ?_) (fun g2 => ?_)
      · rw [Bool.not_eq_true'] at g2
        have g2 : ¬ xx = yx := of_decide_eq_false g2
        rw [hne (fun e => g2 (by injection e))]
        conv => whnf
        refine ⟨by kernel_rfl, ?_⟩
        conv => whnf
        exact fin0 rfl trivial
      rw [Bool.not_eq_false'] at g2
      have g2 : xx = yx := of_decide_eq_true g2
      conv => whnf
      refine ⟨_, r1, ?_⟩
      conv => whnf
      refine ⟨_, r2, ?_⟩
      conv => whnf
      refine branch_of (fun g3 => ?_) (fun g3 => ?_)
      · rw [Bool.not_eq_true'] at g3
        have g3 : ¬ xy = yy := of_decide_eq_false g3
        rw [hne (fun e => g3 (by injection e))]
        conv => whnf
        refine ⟨by kernel_rfl, ?_⟩
        conv => whnf
        exact fin0 rfl trivial
      rw [Bool.not_eq_false'] at g3
      have g3 : xy = yy := of_decide_eq_true g3
      conv => whnf
      refine ⟨_, r1, ?_⟩
      conv => whnf
      refine ⟨_, r2, ?_⟩
      conv => whnf
      refine call0 (keepAtom_good xa ya hbk.2.1) ?_
      by_cases g4 : xa = ya
      · rw [decide_eq_true g4]
        conv => whnf
        refine ⟨by kernel_rfl, ?_⟩
        conv => whnf
        refine ⟨a.length - (k + 1), by omega, k + 1, rfl, by omega, hsame (by rw [g1, g2, g3, g4]), ?_⟩
        rw [wr (by omega) (by omega)]; rfl
      · rw [decide_eq_false g4, hne (fun e => g4 (by injection e))]
        conv => whnf
        refine ⟨by kernel_rfl, ?_⟩
        conv => whnf
        exact fin0 rfl trivial
    · have h := of_decide_eq_false h
      rw [hla] at h
      have e : a = b := nodes_eq hl fun j q1 q2 => hn j q1 q2 (by omega)
      rw [decide_eq_true e]
      conv => whnf
      exact fin0 rfl trivial
theorem keepPat_good (a b : Pat) (ht : a.t.a.length ≤ 1000000) (ha : a.l.length ≤ 1000000) (hb : ∀ o ∈ a.l, nodB o) : Good Tryz.prog 43 [.agg a.v, .agg b.v] [] [.bool (decide (a = b))] [] := by
  obtain ⟨an, at_, al⟩ := a
  obtain ⟨bn, bt, bl⟩ := b
  dsimp only at ht ha hb
  refine good_of hP Tryz.func43 (by kernel_rfl) (lv := [0, 1, 2, 3, 4]) (js := []) ⟨rfl, rfl, rfl, rfl, rfl, rfl, _, rfl, ?_⟩
  conv => whnf
  refine branch_of (fun h => ?_) (fun h => ?_)
  · have h : an = bn := of_decide_eq_true h
    subst h
    conv => whnf
    refine call0 (keepAtom_good at_ bt ht) ?_
    by_cases h : at_ = bt
    · subst h
      rw [decide_eq_true rfl]
      conv => whnf
      refine call0 (keepNodes_good al bl ha hb) ?_
      conv => whnf
      refine fin0 ?_ trivial
      have : decide (al = bl) = decide ((⟨an, at_, al⟩ : Pat) = ⟨an, at_, bl⟩) := by rw [decide_eq_decide]; simp
      rw [this]
    · rw [decide_eq_false h, show decide ((⟨an, at_, al⟩ : Pat) = ⟨an, bt, bl⟩) = false from decide_eq_false (fun e => h (by injection e))]
      conv => whnf
      exact fin0 rfl trivial
  · have h : ¬ an = bn := of_decide_eq_false h
    rw [show decide ((⟨an, at_, al⟩ : Pat) = ⟨bn, bt, bl⟩) = false from decide_eq_false (fun e => h (by injection e))]
    conv => whnf
    exact fin0 rfl trivial
theorem p12_B : (∀ o ∈ p12.l, nodB o) ∧ (p12.t.n.length ≤ 1000000 ∧ p12.t.a.length ≤ 1000000 ∧ ∀ t ∈ p12.t.a, t.v.length ≤ 1000000 ∧ t.x.s.length ≤ 1000000) := by
  have : patH p12 = false := by decide +kernel
  exact ⟨(patH_B this).2.2.2, (patH_B this).2.1⟩
theorem p12_all : ∃ (P : Pat) (w f : Bs) (n : Nat) (e0 e1 e2 e3 a1 a2 : Int), errR w12 = e0 ∧ readP (toksR w12) 0 = (P, n, e1) ∧ patX P = w ∧ patE P = e2 ∧ fmlX P.l = f ∧ fmlE P.l = e3 ∧ fromN P.l 1 = a1 ∧ fromN P.l 2 = a2 ∧ P.l.length = 4 ∧ P.n.length ≤ 1000000 ∧ (∀ o ∈ P.l, nodB o) ∧ (P.t.n.length ≤ 1000000 ∧ P.t.a.length ≤ 1000000 ∧ ∀ t ∈ P.t.a, t.v.length ≤ 1000000 ∧ t.x.s.length ≤ 1000000) ∧
    w = [112, 97, 116, 116, 101, 114, 110, 32, 97, 58, 32, 114, 40, 88, 41, 32, 61, 62, 32, 40, 110, 111, 116, 32, 112, 40, 88, 41, 32, 115, 105, 110, 99, 101, 32, 113, 40, 88, 41, 41, 46] ∧ f = [40, 110, 111, 116, 32, 112, 40, 88, 41, 32, 115, 105, 110, 99, 101, 32, 113, 40, 88, 41, 41] ∧ n = (toksR w12).length ∧ e0 = 0 ∧ e1 = 0 ∧ e2 = 0 ∧ e3 = 0 ∧ a1 = 0 ∧ a2 = 2 := by
  have hp := parse_pat p12_ok
  rw [p12_T] at hp
  exact ⟨p12, _, _, _, _, _, _, _, _, _, hp.1, hp.2, rfl, p12_X.2, rfl, p12_F.2, p12_N.1, p12_N.2, rfl, by decide, p12_B.1, p12_B.2, p12_X.1, p12_F.1, rfl, rfl, rfl, rfl, rfl, rfl, rfl⟩
theorem w12_len : (toksR w12).length + 1 ≤ 1000000 := by
  rcases chain_len (chain_R w12) with h | h
  · have : w12.length = 41 := rfl
    omega
  · rw [h]; decide
theorem wakes12_good : Good Tryz.prog 31 [] [] [.bool true] [] := by
  refine good_of hP Tryz.func31 (by kernel_rfl) (lv := [0, 1, 3, 4, 5, 6, 7, 8, 9, 10]) (js := []) ⟨rfl, rfl, rfl, rfl, rfl, rfl, _, rfl, ?_⟩
  obtain ⟨P, w, f, n, e0, e1, e2, e3, a1, a2, h1, h2, h3, h4, h5, h6, h7, h8, h9, h10, h11, h12, h13, h14, hn, q0, q1, q2, q3, q4, q5⟩ := p12_all
  have hb := tokB_R w12 (by decide)
  have hr := readP_good (toksR w12) 0 hb w12_len (Nat.zero_le _)
  rw [h2] at hr
  conv => whnf
  refine call0 (tokens_good w12 (by decide)) ?_
  rw [h1]
  clear h2 h1
  generalize toksR w12 = l at *
  generalize posR w12 = z
  conv => whnf
  refine call0 (hr) ?_
  conv => whnf
  refine call0 (fpattern_good P h10 h12 (by omega) h11) ?_
  rw [h3, h4]
  conv => whnf
  refine call0 (ftext_good P.l (by omega) h11) ?_
  rw [h5, h6]
  conv => whnf
  refine branch_of (fun g => ?_) (fun g => ?_)
  · conv => whnf
    refine branch_of (fun g => ?_) (fun g => ?_)
    · conv => whnf
      refine branch_of (fun g => ?_) (fun g => ?_)
      · conv => whnf
        refine branch_of (fun g => ?_) (fun g => ?_)
        · conv => whnf
          refine branch_of (fun g => ?_) (fun g => ?_)
          · conv => whnf
            refine branch_of (fun g => ?_) (fun g => ?_)
            · conv => whnf
              refine branch_of (fun g => ?_) (fun g => ?_)
              · conv => whnf
                refine branch_of (fun g => ?_) (fun g => ?_)
                · conv => whnf
                  refine call0 (ffrom_good P.l 1 (by omega) h11) ?_
                  rw [h7]
                  conv => whnf
                  refine branch_of (fun g => ?_) (fun g => ?_)
                  · conv => whnf
                    refine call0 (ffrom_good P.l 2 (by omega) h11) ?_
                    rw [h8]
                    conv => whnf
                    refine branch_of (fun g => ?_) (fun g => ?_)
                    · conv => whnf
                      refine call0 (fcheck_good [] (by decide) (fun o ho => by cases ho)) ?_
                      conv => whnf
                      exact fin0 rfl trivial
                    · exact absurd q5 (of_decide_eq_false g)
                  · exact absurd q4 (of_decide_eq_false g)
                · exact absurd h14 (of_decide_eq_false g)
              · exact absurd q3 (of_decide_eq_false g)
            · exact absurd h13 (of_decide_eq_false g)
          · exact absurd q2 (of_decide_eq_false g)
        · have g := of_decide_eq_false g
          rw [List.length_map] at g
          exact absurd (show ((P.l.length : Nat) : Int) = 4 by omega) g
      · have g := of_decide_eq_false g
        rw [List.length_map] at g; exact absurd (by rw [hn]) g
    · exact absurd q1 (of_decide_eq_false g)
  · exact absurd q0 (of_decide_eq_false g)
end Go.PV
namespace Go.PV
open Go Go.Proofs
set_option maxRecDepth 100000
theorem lower_good (c : UInt8) : Good Tryz.prog 196 [.int .u8 c.toNat] [] [.bool (smallB c)] [] := by
  refine good_of hP Tryz.func196 (by kernel_rfl) (lv := [0, 2]) (js := []) ⟨rfl, rfl, rfl, rfl, rfl, rfl, _, rfl, ?_⟩
  repeat' (conv => whnf); refine branch_of (fun _ => ?_) (fun _ => ?_)
  all_goals (conv => whnf); exact fin0 (by simp_all [smallB, inB] <;> first | omega | (rw [Bool.eq_iff_iff]; simp; omega)) trivial
theorem upper_good (c : UInt8) : Good Tryz.prog 197 [.int .u8 c.toNat] [] [.bool (largeB c)] [] := by
  refine good_of hP Tryz.func197 (by kernel_rfl) (lv := [0, 2]) (js := []) ⟨rfl, rfl, rfl, rfl, rfl, rfl, _, rfl, ?_⟩
  repeat' (conv => whnf); refine branch_of (fun _ => ?_) (fun _ => ?_)
  all_goals (conv => whnf); exact fin0 (by simp_all [largeB, inB] <;> first | omega | (rw [Bool.eq_iff_iff]; simp; omega)) trivial
theorem rdigit_good (c : UInt8) : Good Tryz.prog 199 [.int .u8 c.toNat] [] [.bool (digitB c)] [] := by
  refine good_of hP Tryz.func199 (by kernel_rfl) (lv := [0, 2]) (js := []) ⟨rfl, rfl, rfl, rfl, rfl, rfl, _, rfl, ?_⟩
  repeat' (conv => whnf); refine branch_of (fun _ => ?_) (fun _ => ?_)
  all_goals (conv => whnf); exact fin0 (by simp_all [digitB, inB] <;> first | omega | (rw [Bool.eq_iff_iff]; simp; omega)) trivial
theorem inner_good (c : UInt8) : Good Tryz.prog 208 [.int .u8 c.toNat] [] [.bool (letterB c)] [] := by
  refine good_of hP Tryz.func208 (by kernel_rfl) (lv := [0, 2]) (js := []) ⟨rfl, rfl, rfl, rfl, rfl, rfl, _, rfl, ?_⟩
  conv => whnf
  refine call0 (lower_good _) ?_
  cases h1 : smallB c with
  | true => conv => whnf
            exact fin0 (by simp [letterB, h1]) trivial
  | false =>
  conv => whnf
  refine call0 (upper_good _) ?_
  cases h2 : largeB c with
  | true => conv => whnf
            exact fin0 (by simp [letterB, h2]) trivial
  | false =>
  conv => whnf
  refine call0 (rdigit_good _) ?_
  cases h3 : digitB c with
  | true => conv => whnf
            exact fin0 (by simp [letterB, h3]) trivial
  | false =>
  conv => whnf
  refine fin0 ?_ trivial
  congr 2
  simp [letterB, h1, h2, h3]; omega
theorem in_good (a b c : Int) : Good Tryz.prog 185 [.int .i64 a, .int .i64 b, .int .i64 c] [] [.bool (decide (b ≤ a ∧ a ≤ c))] [] := by
  refine good_of hP Tryz.func185 (by kernel_rfl) (lv := [0, 1, 2, 6]) (js := []) ⟨rfl, rfl, rfl, rfl, rfl, rfl, _, rfl, ?_⟩
  conv => whnf
  refine branch_of (fun h => ?_) (fun h => ?_)
  · have h := of_decide_eq_true h
    conv => whnf
    exact fin0 (by simp [h]) trivial
  · have h := of_decide_eq_false h
    conv => whnf
    exact fin0 (by simp; omega) trivial
theorem word_good (s : Bs) (large : Bool) (hs : s.length ≤ 1000000) : Good Tryz.prog 146 [.str s, .bool large] [] [.bool (refWordS large s)] [] := by
  refine good_of hP Tryz.func146 (by kernel_rfl) (lv := [0, 1, 4, 5, 26, 30, 37]) (js := [26]) ⟨rfl, rfl, rfl, rfl, rfl, rfl, _, rfl, ?_⟩
  conv => whnf
  refine seq_of hP [0, 1, 4, 5, 26, 30, 37] [26] [0, 4] [] [] (fun st => refWordS large s = s.all letterB ∧ st = ⟨[(0, .str s), (4, .bool false)], []⟩) ?_ ?_
  · conv => whnf
    refine call0 (in_good s.length 1 24) ?_
    conv => whnf
    refine branch_of (fun h => ?_) (fun h => ?_)
    · rw [Bool.not_eq_true'] at h
      have h := of_decide_eq_false h
      conv => whnf
      refine fin0 ?_ trivial
      have : (decide (1 ≤ s.length) && decide (s.length ≤ 24)) = false := by simp; omega
      rw [refWordS, this]; simp
    have h : 1 ≤ s.length ∧ s.length ≤ 24 := by
      rw [Bool.not_eq_false'] at h
      have h := of_decide_eq_true h; omega
    have h0 : 0 < s.length := h.1
    obtain ⟨c, r, hcr, hc⟩ := head_at h0
    have hw : refWordS large s = ((if large then largeB c else smallB c) && s.all letterB) := by
      have e1 : decide (1 ≤ s.length) = true := by simp; omega
      have e2 : decide (s.length ≤ 24) = true := by simp; omega
      rw [refWordS, e1, e2]
      have : headB (fun c => if large then largeB c else smallB c) s = if large then largeB c else smallB c := by rw [hcr]; rfl
      rw [this]; simp
    rw [hw]
    conv => whnf
    refine ⟨c, by rw [← hc]; exact idx h0 rfl, ?_⟩
    conv => whnf
    refine call0 (upper_good _) ?_
    cases large with
    | true =>
      cases hl : largeB c with
      | false =>
        conv => whnf
        exact fin0 rfl trivial
      | true =>
        conv => whnf
        exact ⟨rfl, rfl⟩
    | false =>
      cases hl : largeB c with
      | true =>
        conv => whnf
        refine fin0 ?_ trivial
        rw [if_neg (by simp), large_not_small hl]; rfl
      | false =>
        conv => whnf
        refine ⟨c, by rw [← hc]; exact idx h0 rfl, ?_⟩
        conv => whnf
        refine call0 (lower_good _) ?_
        cases hsm : smallB c with
        | false =>
          conv => whnf
          exact fin0 rfl trivial
        | true =>
          conv => whnf
          exact ⟨rfl, rfl⟩
  rintro st ⟨hw, rfl⟩
  rw [hw]
  conv => whnf
  refine loop_of hP [0, 1, 4, 5, 26, 30, 37] [26] [0, 4, 5] [] [] (fun n st => ∃ k : Nat, n = s.length - k ∧ k ≤ s.length ∧ s.all letterB = (s.drop k).all letterB ∧ st = ⟨[(0, .str s), (4, .bool false), (5, .int .i64 k)], []⟩) s.length ?_ ?_
  · conv => whnf
    exact ⟨0, rfl, Nat.zero_le _, rfl, rfl⟩
  · rintro n st ⟨k, rfl, hk, he, rfl⟩
    conv => whnf
    refine branch_of (fun h => ?_) (fun h => ?_)
    · have h := of_decide_eq_true h
      have hk' : k < s.length := by omega
      rw [all_drop hk'] at he
      conv => whnf
      refine ⟨s[k], idx hk' rfl, ?_⟩
      conv => whnf
      refine call0 (inner_good _) ?_
      cases hl : letterB s[k] with
      | false =>
        rw [hl] at he
        conv => whnf
        exact fin0 (by rw [he]; rfl) trivial
      | true =>
        rw [hl, Bool.true_and] at he
        conv => whnf
        refine ⟨s.length - (k + 1), by omega, k + 1, rfl, by omega, he, ?_⟩
        rw [wr (by omega) (by omega)]; rfl
    · have h := of_decide_eq_false h
      have : s.drop k = [] := List.drop_eq_nil_iff.2 (by omega)
      rw [this] at he
      conv => whnf
      exact fin0 (by rw [he]; rfl) trivial
theorem refNumber_good (s : Bs) (hs : s.length ≤ 1000000) : Good Tryz.prog 181 [.str s] [] [.int .i64 ((refNumS s).getD 0), .bool (refNumS s).isSome] [] := by
  refine good_of hP Tryz.func181 (by kernel_rfl) (lv := [0, 2, 3, 4, 5, 6, 7, 8, 17, 22, 26, 33, 48, 53, 54]) (js := [200001, 17]) ⟨rfl, rfl, rfl, rfl, rfl, rfl, _, rfl, ?_⟩
  conv => whnf
  refine seq_of hP [0, 2, 3, 4, 5, 6, 7, 8, 17, 22, 26, 33, 48, 53, 54] [200001, 17] [0, 2, 3, 4] [] [] (fun st => st = ⟨[(0, .str s), (2, .int .i64 0), (3, .bool false), (4, .bool (signed s))], []⟩) ?_ ?_
  · conv => whnf
    refine branch_of (fun h => ?_) (fun h => ?_)
    · have h := of_decide_eq_true h
      obtain ⟨c, r, rfl, _⟩ := head_at (s := s) (by omega)
      conv => whnf
      refine ⟨c, ⟨by omega, rfl⟩, ?_⟩
      conv => whnf
      have : signed (c :: r) = decide ((c.toNat : Int) = 45) := by show decide _ = decide _; rw [decide_eq_decide]; omega
      rw [this]
    · have h := of_decide_eq_false h
      have hs0 : s = [] := List.eq_nil_of_length_eq_zero (by omega)
      subst hs0
      conv => whnf
      rfl
  rintro st rfl
  conv => whnf
  refine seq_of hP [0, 2, 3, 4, 5, 6, 7, 8, 17, 22, 26, 33, 48, 53, 54] [200001, 17] [0, 2, 3, 4] [] [] (fun st => st = ⟨[(0, .str (unS s)), (2, .int .i64 0), (3, .bool false), (4, .bool (signed s))], []⟩) ?_ ?_
  · conv => whnf
    cases hsg : signed s with
    | true =>
      have hl : 0 < s.length := by
        cases s with
        | nil => simp [signed, headB] at hsg
        | cons c r => simp
      conv => whnf
      refine ⟨⟨⟩, by dsimp only; omega, ?_⟩
      conv => whnf
      rw [unS, hsg]; rfl
    | false =>
      conv => whnf
      rw [unS, hsg]; rfl
  rintro st rfl
  have hul : (unS s).length ≤ s.length := by unfold unS; split <;> simp
  conv => whnf
  refine branch_of (fun h => ?_) (fun h => ?_)
  · have h := of_decide_eq_true h
    have h0 : unS s = [] := List.eq_nil_of_length_eq_zero (by omega)
    conv => whnf
    exact fin0 (by simp [refNumS, h0]) trivial
  have h := of_decide_eq_false h
  have hne : unS s ≠ [] := fun e => h (by rw [e]; rfl)
  conv => whnf
  generalize hu : unS s = u at *
  refine loop_of hP [0, 2, 3, 4, 5, 6, 7, 8, 17, 22, 26, 33, 48, 53, 54] [200001, 17] [0, 2, 3, 4, 5, 6, 7] [] [] (fun m st => ∃ (k : Nat) (n : Nat) (over : Bool), m = u.length - k ∧ k ≤ u.length ∧ n ≤ 4611686018427387904 ∧ u.all digitB = (u.drop k).all digitB ∧ (over = true → 4611686018427387904 < digN (u.take k)) ∧ (over = false → n = digN (u.take k)) ∧
    st = ⟨[(0, .str u), (2, .int .i64 0), (3, .bool false), (4, .bool (signed s)), (5, .int .i64 n), (6, .bool over), (7, .int .i64 k)], []⟩) u.length ?_ ?_
  · conv => whnf
    exact ⟨0, 0, false, rfl, Nat.zero_le _, by omega, rfl, by simp, fun _ => rfl, rfl⟩
  · rintro m st ⟨k, n, over, rfl, hk, hn, he, ho1, ho2, rfl⟩
    conv => whnf
    refine branch_of (fun h => ?_) (fun h => ?_)
    · have h := of_decide_eq_true h
      have hk' : k < u.length := by omega
      rw [all_drop hk'] at he
      conv => whnf
      refine ⟨u[k], idx hk' rfl, ?_⟩
      conv => whnf
      refine call0 (rdigit_good _) ?_
      have hdig := digN_snoc u hk'
      cases hd : digitB u[k] with
      | false =>
        conv => whnf
        rw [hd] at he
        exact fin0 (by simp [refNumS, hu, he]) trivial
      | true =>
        rw [hd, Bool.true_and] at he
        have hd := hd
        simp only [digitB, inB_iff] at hd
        conv => whnf
        refine ⟨u[k], idx hk' rfl, ?_⟩
        have hw1 : IntKind.i64.wrap (IntKind.u8.wrap ((u[k].toNat : Int) - 48)) = (u[k].toNat - 48 : Nat) := by
          have : IntKind.u8.wrap ((u[k].toNat : Int) - 48) = (u[k].toNat - 48 : Nat) := by simp [IntKind.wrap, IntKind.bits, IntKind.signed]; omega
          rw [this, wr (by omega) (by omega)]
        generalize hD : u[k].toNat - 48 = d at *
        have hw2 : IntKind.i64.wrap ((k : Int) + 1) = (k + 1 : Nat) := by rw [wr (by omega) (by omega)]; rfl
        cases over with
        | true =>
          conv => whnf
          refine ⟨u.length - (k + 1), by omega, k + 1, n, true, rfl, by omega, hn, he, fun _ => ?_, by simp, ?_⟩
          · have := ho1 rfl; omega
          · rw [hw2]
        | false =>
          conv => whnf
          have hn1 := ho2 rfl
          have hw3 : IntKind.i64.wrap ((IntKind.i64.wrap (4611686018427387904 - (d : Int))).tdiv 10) = (4611686018427387904 - d) / 10 := by
            have hd9 : d ≤ 9 := by omega
            rw [wr (n := 4611686018427387904 - (d : Int)) (by omega) (by omega), Int.tdiv_eq_ediv_of_nonneg (by omega), wr (by omega) (by omega)]
          rw [hw1]
          refine ⟨⟨⟩, by decide, ?_⟩
          rw [hw3]
          conv => whnf
          cases hov : decide ((4611686018427387904 - (d : Int)) / 10 < n) with
          | true =>
            have hov := of_decide_eq_true hov
            conv => whnf
            refine ⟨u.length - (k + 1), by omega, k + 1, n, true, rfl, by omega, hn, he, fun _ => ?_, by simp, ?_⟩
            · omega
            · rw [hw2]
          | false =>
            have hov := of_decide_eq_false hov
            conv => whnf
            refine ⟨u.length - (k + 1), by omega, k + 1, 10 * n + d, false, rfl, by omega, by omega, he, by simp, fun _ => by omega, ?_⟩
            rw [hw2, wr (n := 10 * (n : Int)) (by omega) (by omega), wr (by omega) (by omega)]; rfl
    · have h := of_decide_eq_false h
      have hku : k = u.length := by omega
      subst hku
      have hal : u.all digitB = true := by rw [he]; simp
      rw [List.take_length] at ho1 ho2
      conv => whnf
      cases over with
      | true =>
        have := ho1 rfl
        conv => whnf
        exact fin0 (by simp [refNumS, hu, this]) trivial
      | false =>
        have hn2 := ho2 rfl
        conv => whnf
        cases hsg : signed s with
        | true =>
          conv => whnf
          refine fin0 ?_ trivial
          rw [wr (by omega) (by omega)]
          have hle : ¬ 4611686018427387904 < n := by omega
          simp [refNumS, hu, hne, hal, hsg, ← hn2, hle]
        | false =>
          conv => whnf
          refine fin0 ?_ trivial
          have hle : ¬ 4611686018427387904 < n := by omega
          simp [refNumS, hu, hne, hal, hsg, ← hn2, hle]
theorem refQuoted_good (s : Bs) (hs : s.length ≤ 1000000) : Good Tryz.prog 201 [.str s] [] [.str (refQuotedS s).1, .bool (refQuotedS s).2] [] := by
  refine good_of hP Tryz.func201 (by kernel_rfl) (lv := [0, 2, 3, 4, 5, 13, 17, 20, 36, 58, 59]) (js := [13]) ⟨rfl, rfl, rfl, rfl, rfl, rfl, _, rfl, ?_⟩
  conv => whnf
  refine seq_of hP [0, 2, 3, 4, 5, 13, 17, 20, 36, 58, 59] [13] [0, 2, 3] [] [] (fun st => refQuotedS s = refQGo [] (s.drop 1) ∧ st = ⟨[(0, .str s), (2, .str []), (3, .bool false)], []⟩) ?_ ?_
  · conv => whnf
    refine branch_of (fun h => ?_) (fun h => ?_)
    · have h := of_decide_eq_true h
      conv => whnf
      refine fin0 ?_ trivial
      match s, h with
      | [], _ => rfl
      | [c], _ => rfl
      | c :: d :: r, h => simp at h; omega
    · have h := of_decide_eq_false h
      match s, h with
      | [], h => simp at h
      | [c], h => simp at h
      | c :: d :: r, h =>
        conv => whnf
        refine ⟨c, ⟨by omega, rfl⟩, ?_⟩
        conv => whnf
        refine branch_of (fun h1 => ?_) (fun h1 => ?_)
        · rw [Bool.not_eq_true'] at h1
          have h1 := of_decide_eq_false h1
          conv => whnf
          refine fin0 ?_ trivial
          rw [refQuotedS, if_neg (by omega)]
        · rw [Bool.not_eq_false'] at h1
          have h1 := of_decide_eq_true h1
          conv => whnf
          exact ⟨by rw [refQuotedS, if_pos (by omega)]; rfl, rfl⟩
  rintro st ⟨hq, rfl⟩
  conv => whnf
  refine loop_of hP [0, 2, 3, 4, 5, 13, 17, 20, 36, 58, 59] [13] [0, 2, 3, 4, 5] [] [] (fun n st => ∃ (k : Nat) (out : Bs), n = s.length + 1 - k ∧ 1 ≤ k ∧ (k ≤ s.length ∨ k = 1) ∧ out.length ≤ k ∧ refQuotedS s = refQGo out (s.drop k) ∧ st = ⟨[(0, .str s), (2, .str []), (3, .bool false), (4, .str out), (5, .int .i64 k)], []⟩) s.length ?_ ?_
  · conv => whnf
    exact ⟨1, [], by omega, by omega, .inr rfl, Nat.zero_le _, hq, rfl⟩
  · rintro n st ⟨k, out, rfl, hk0, hk, hout, he, rfl⟩
    conv => whnf
    refine branch_of (fun h => ?_) (fun h => ?_)
    · have h := of_decide_eq_true h
      have hk' : k < s.length := by omega
      have hw1 : IntKind.i64.wrap ((k : Int) + 1) = (k + 1 : Nat) := by rw [wr (by omega) (by omega)]; rfl
      rw [drop_cons hk'] at he
      conv => whnf
      refine ⟨s[k], idx hk' rfl, ?_⟩
      conv => whnf
      refine branch_of (fun h1 => ?_) (fun h1 => ?_)
      · have h1 := of_decide_eq_true h1
        rw [refQ_quote (by omega)] at he
        have hr : decide (s.drop (k + 1) = []) = decide ((k : Int) = s.length - 1) := by
          rw [decide_eq_decide, List.drop_eq_nil_iff]; omega
        rw [hr] at he
        conv => whnf
        rw [wr (by omega) (by omega)]
        refine branch_of (fun h2 => ?_) (fun h2 => ?_)
        · conv => whnf
          refine fin0 ?_ trivial
          rw [he, h2]; simp; omega
        · conv => whnf
          refine fin0 ?_ trivial
          rw [he, h2]; simp
      · have h1 := of_decide_eq_false h1
        conv => whnf
        refine ⟨s[k], idx hk' rfl, ?_⟩
        conv => whnf
        refine branch_of (fun h2 => ?_) (fun h2 => ?_)
        · have h2 := of_decide_eq_true h2
          conv => whnf
          rw [hw1]
          refine branch_of (fun h3 => ?_) (fun h3 => ?_)
          · have h3 := of_decide_eq_true h3
            have : s.drop (k + 1) = [] := List.drop_eq_nil_iff.2 (by omega)
            rw [this, refQ_bad (by omega) (.inl ⟨by omega, rfl⟩)] at he
            conv => whnf
            exact fin0 (by rw [he]) trivial
          · have h3 := of_decide_eq_false h3
            have hk2 : k + 1 < s.length := by omega
            have hw2 : IntKind.i64.wrap (((k + 1 : Nat) : Int) + 1) = (k + 2 : Nat) := by rw [wr (by omega) (by omega)]; rfl
            rw [drop_cons hk2] at he
            conv => whnf
            refine ⟨s[k + 1], idx hk2 rfl, ?_⟩
            have esc : escB s[k + 1] = true → ∃ m, m < s.length + 1 - k ∧ ∃ (k' : Nat) (out' : Bs), m = s.length + 1 - k' ∧ 1 ≤ k' ∧ (k' ≤ s.length ∨ k' = 1) ∧ out'.length ≤ k' ∧ refQuotedS s = refQGo out' (s.drop k') ∧ (⟨[(0, .str s), (2, .str []), (3, .bool false), (4, .str (out ++ (s.take (k + 2)).drop (k + 1))), (5, .int .i64 ((k + 2 : Nat) : Int))], []⟩ : St) = ⟨[(0, .str s), (2, .str []), (3, .bool false), (4, .str out'), (5, .int .i64 k')], []⟩ := fun hd => by
              refine ⟨s.length + 1 - (k + 2), by omega, k + 2, out ++ [s[k + 1]], rfl, by omega, by omega, by simp; omega, by rw [he, refQ_esc (by omega) hd], ?_⟩
              rw [sub1 hk2]
            conv => whnf
            refine branch_of (fun h4 => ?_) (fun h4 => ?_)
            · rw [Bool.not_eq_true'] at h4
              have h4 := of_decide_eq_false h4
              conv => whnf
              refine ⟨s[k + 1], idx hk2 rfl, ?_⟩
              conv => whnf
              refine branch_of (fun h5 => ?_) (fun h5 => ?_)
              · rw [Bool.not_eq_true'] at h5
                have h5 := of_decide_eq_false h5
                rw [refQ_bad (by omega) (.inl ⟨by omega, by simp [headB, escB]; omega⟩)] at he
                conv => whnf
                exact fin0 (by rw [he]) trivial
              · rw [Bool.not_eq_false'] at h5
                have h5 := of_decide_eq_true h5
                conv => whnf
                rw [hw2]
                refine ⟨⟨⟩, by dsimp only; omega, ?_⟩
                conv => whnf
                refine ⟨⟨⟩, by dsimp only; simp; omega, ?_⟩
                conv => whnf
                rw [hw2]
                exact esc (by simp [escB]; omega)
            · rw [Bool.not_eq_false'] at h4
              have h4 := of_decide_eq_true h4
              conv => whnf
              rw [hw2]
              refine ⟨⟨⟩, by dsimp only; omega, ?_⟩
              conv => whnf
              refine ⟨⟨⟩, by dsimp only; simp; omega, ?_⟩
              conv => whnf
              rw [hw2]
              exact esc (by simp [escB]; omega)
        · have h2 := of_decide_eq_false h2
          conv => whnf
          refine ⟨s[k], idx hk' rfl, ?_⟩
          conv => whnf
          have hwb : IntKind.i64.wrap (s[k].toNat : Int) = s[k].toNat := by have := UInt8.toNat_lt s[k]; rw [wr (by omega) (by omega)]
          rw [hwb]
          refine call0 (in_good _ 32 126) ?_
          conv => whnf
          refine branch_of (fun h3 => ?_) (fun h3 => ?_)
          · rw [Bool.not_eq_true'] at h3
            have h3 := of_decide_eq_false h3
            rw [refQ_bad (by omega) (.inr ⟨by omega, by simp only [plainB, inB_no]; omega⟩)] at he
            conv => whnf
            exact fin0 (by rw [he]) trivial
          · rw [Bool.not_eq_false'] at h3
            have h3 := of_decide_eq_true h3
            rw [refQ_step (by omega) (by omega) (by simp only [plainB, inB_iff]; omega)] at he
            conv => whnf
            rw [hw1]
            refine ⟨⟨⟩, by dsimp only; omega, ?_⟩
            conv => whnf
            refine ⟨⟨⟩, by dsimp only; simp; omega, ?_⟩
            conv => whnf
            rw [hw1]
            refine ⟨s.length + 1 - (k + 1), by omega, k + 1, out ++ [s[k]], rfl, by omega, by omega, by simp; omega, he, ?_⟩
            show (⟨[(0, .str s), (2, .str []), (3, .bool false), (4, .str (out ++ (s.take (k + 1)).drop k)), (5, .int .i64 ((k + 1 : Nat) : Int))], []⟩ : St) = _
            rw [sub1 hk']
    · have h := of_decide_eq_false h
      have : s.drop k = [] := List.drop_eq_nil_iff.2 (by omega)
      rw [this] at he
      conv => whnf
      exact fin0 (by rw [he]; rfl) trivial
end Go.PV
namespace Go.PV
open Go Go.Proofs
set_option maxRecDepth 100000
theorem single_good (c : UInt8) : Good Tryz.prog 200 [.int .u8 c.toNat] [] [.bool (decide (c ∈ signs1))] [] := by
  refine good_of hP Tryz.func200 (by kernel_rfl) (lv := [0, 2, 3, 4, 8, 15]) (js := []) ⟨rfl, rfl, rfl, rfl, rfl, rfl, _, rfl, ?_⟩
  conv => whnf
  refine loop_of hP [0, 2, 3, 4, 8, 15] [] [0, 2, 3, 4] [] [] (fun n st => ∃ k : Nat, n = 13 - k ∧ k ≤ 13 ∧ (c ∈ signs1 ↔ c ∈ signs1.drop k) ∧ st = ⟨[(0, .int .u8 c.toNat), (2, .bool false), (3, .str signs1), (4, .int .i64 k)], []⟩) 13 ?_ ?_
  · conv => whnf
    exact ⟨0, rfl, by omega, by rw [List.drop_zero], rfl⟩
  · rintro n st ⟨k, rfl, hk, he, rfl⟩
    have hlen : signs1.length = 13 := rfl
    conv => whnf
    refine branch_of (fun h => ?_) (fun h => ?_)
    · have h := of_decide_eq_true h
      rw [hlen] at h
      have hk' : k < signs1.length := by rw [hlen]; omega
      rw [drop_cons hk', List.mem_cons] at he
      conv => whnf
      refine ⟨signs1[k], idx hk' rfl, ?_⟩
      conv => whnf
      refine branch_of (fun h1 => ?_) (fun h1 => ?_)
      · have h1 := of_decide_eq_true h1
        have : c = signs1[k] := UInt8.toNat_inj.1 (by omega)
        conv => whnf
        exact fin0 (by rw [decide_eq_true (he.2 (.inl this))]) trivial
      · have h1 := of_decide_eq_false h1
        have : ¬ c = signs1[k] := fun e => h1 (by rw [← e])
        conv => whnf
        refine ⟨13 - (k + 1), by omega, k + 1, rfl, by omega, by rw [he]; simp [this], ?_⟩
        rw [wr (by omega) (by omega)]; rfl
    · have h := of_decide_eq_false h
      rw [hlen] at h
      have hk3 : k = 13 := by omega
      subst hk3
      have hno : ¬ c ∈ signs1 := fun hm => by have := he.1 hm; simp [signs1] at this
      conv => whnf
      exact fin0 (by rw [decide_eq_false hno]) trivial
theorem right_good (k : Int) (t : Bs) (hs : t.length ≤ 1000000) : Good Tryz.prog 132 [.int .i64 k, .str t] [] [.bool (refRight k t)] [] := by
  refine good_of hP Tryz.func132 (by kernel_rfl) (lv := [0, 1, 4, 6, 8, 9, 10, 14, 18, 26]) (js := []) ⟨rfl, rfl, rfl, rfl, rfl, rfl, _, rfl, ?_⟩
  conv => whnf
  refine branch_of (fun h1 => ?_) (fun h1 => ?_)
  · have h1 := of_decide_eq_true h1
    conv => whnf
    refine call0 (word_good t false hs) ?_
    conv => whnf
    exact fin0 (by rw [refRight, if_pos h1]) trivial
  have h1 := of_decide_eq_false h1
  conv => whnf
  refine branch_of (fun h2 => ?_) (fun h2 => ?_)
  · have h2 := of_decide_eq_true h2
    conv => whnf
    refine call0 (word_good t true hs) ?_
    conv => whnf
    exact fin0 (by rw [refRight, if_neg h1, if_pos h2]) trivial
  have h2 := of_decide_eq_false h2
  conv => whnf
  refine branch_of (fun h3 => ?_) (fun h3 => ?_)
  · have h3 := of_decide_eq_true h3
    conv => whnf
    refine call0 (refNumber_good t hs) ?_
    conv => whnf
    exact fin0 (by rw [refRight, if_neg h1, if_neg h2, if_pos h3]) trivial
  have h3 := of_decide_eq_false h3
  conv => whnf
  refine branch_of (fun h4 => ?_) (fun h4 => ?_)
  · have h4 := of_decide_eq_true h4
    conv => whnf
    refine call0 (refQuoted_good t hs) ?_
    conv => whnf
    exact fin0 (by rw [refRight, if_neg h1, if_neg h2, if_neg h3, if_pos h4]) trivial
  have h4 := of_decide_eq_false h4
  have e : refRight k t = ((decide (t.length = 1) && headB (fun c => decide (c ∈ signs1)) t) || twoB t) := by rw [refRight, if_neg h1, if_neg h2, if_neg h3, if_neg h4]
  rw [e]
  conv => whnf
  refine branch_of (fun h => ?_) (fun h => ?_)
  · have h := of_decide_eq_true h
    obtain ⟨c, r, rfl, _⟩ := head_at (s := t) (by omega)
    have hr : r = [] := by simp at h; exact List.eq_nil_of_length_eq_zero (by omega)
    subst hr
    conv => whnf
    refine ⟨c, ⟨by omega, rfl⟩, ?_⟩
    conv => whnf
    refine call0 (single_good c) ?_
    have ex : (decide (([c] : Bs).length = 1) && headB (fun c => decide (c ∈ signs1)) [c]) = decide (c ∈ signs1) := rfl
    have tw : twoB [c] = false := by simp [twoB]
    rw [ex, tw, Bool.or_false]
    cases hm : decide (c ∈ signs1) with
    | true =>
      conv => whnf
      exact fin0 rfl trivial
    | false =>
      conv => whnf
      refine branch_of (fun h => absurd (of_decide_eq_true h) (by simp)) (fun _ => ?_)
      conv => whnf
      refine branch_of (fun h => absurd (of_decide_eq_true h) (by simp)) (fun _ => ?_)
      conv => whnf
      refine branch_of (fun h => absurd (of_decide_eq_true h) (by simp)) (fun _ => ?_)
      conv => whnf
      exact fin0 (by simp) trivial
  · have h := of_decide_eq_false h
    have ex : (decide (t.length = 1) && headB (fun c => decide (c ∈ signs1)) t) = false := by rw [decide_eq_false (by omega)]; rfl
    conv => whnf
    refine branch_of (fun h => ?_) (fun t0 => ?_)
    · have h : t = [33, 61] := of_decide_eq_true h
      conv => whnf
      exact fin0 (by subst h; rfl) trivial
    have t0 : t ≠ [33, 61] := of_decide_eq_false t0
    conv => whnf
    refine branch_of (fun h => ?_) (fun t1 => ?_)
    · have h : t = [60, 61] := of_decide_eq_true h
      conv => whnf
      exact fin0 (by subst h; rfl) trivial
    have t1 : t ≠ [60, 61] := of_decide_eq_false t1
    conv => whnf
    refine branch_of (fun h => ?_) (fun t2 => ?_)
    · have h : t = [45, 62] := of_decide_eq_true h
      conv => whnf
      exact fin0 (by subst h; rfl) trivial
    have t2 : t ≠ [45, 62] := of_decide_eq_false t2
    conv => whnf
    refine fin0 ?_ trivial
    have ht : twoB t = decide (t = [61, 62]) := by simp [twoB, t0, t1, t2]
    rw [ex, Bool.false_or, ht]
end Go.PV
namespace Go.PV
open Go Go.Proofs
set_option maxRecDepth 100000
theorem plainB_in (c : UInt8) : plainB c = decide ((32 : Int) ≤ (c.toNat : Int) ∧ (c.toNat : Int) ≤ 126) := by
  unfold plainB inB
  rw [Bool.eq_iff_iff]; simp; omega
/-- the page's right value -/
theorem refValue_good (v : Val) (hs : v.s.length ≤ 1000000) : Good Tryz.prog 136 [.agg v.c] [] [.bool (checkS v)] [] := by
  obtain ⟨k, n, s⟩ := v
  dsimp only at hs
  refine good_of hP Tryz.func136 (by kernel_rfl) (lv := [0, 1, 2, 3, 5, 6, 17, 27, 37, 42, 51]) (js := []) ⟨rfl, rfl, rfl, rfl, rfl, rfl, _, rfl, ?_⟩
  unfold checkS
  dsimp only
  conv => whnf
  refine branch_of (fun h => ?_) (fun h => ?_)
  · have h : k = 1 := of_decide_eq_true h
    rw [if_pos h]
    conv => whnf
    refine call0 (in_good n (-4611686018427387904) 4611686018427387904) ?_
    unfold inR
    refine branch_of (fun h2 => ?_) (fun h2 => ?_)
    · rw [h2]
      conv => whnf
      have e : decide ((s.length : Int) = 0) = decide (s = []) := by
        rw [decide_eq_decide]; constructor
        · intro e; exact List.eq_nil_of_length_eq_zero (by omega)
        · intro e; subst e; rfl
      exact fin0 (by rw [Bool.true_and, ← e]) trivial
    · rw [h2]
      conv => whnf
      exact fin0 rfl trivial
  have h : ¬ k = 1 := of_decide_eq_false h
  rw [if_neg h]
  conv => whnf
  refine branch_of (fun h3 => ?_) (fun h3 => ?_)
  · have h3 : k = 2 := of_decide_eq_true h3
    rw [if_pos h3]
    conv => whnf
    refine branch_of (fun h4 => ?_) (fun h4 => ?_)
    · rw [h4]
      conv => whnf
      refine call0 (word_good s false hs) ?_
      rw [symbol_word]
      conv => whnf
      exact fin0 rfl trivial
    · rw [h4]
      conv => whnf
      exact fin0 rfl trivial
  have h3 : ¬ k = 2 := of_decide_eq_false h3
  rw [if_neg h3]
  conv => whnf
  refine branch_of (fun h5 => ?_) (fun h5 => ?_)
  · have h5 : k = 3 := of_decide_eq_true h5
    rw [if_pos h5]
    conv => whnf
    refine branch_of (fun h6 => ?_) (fun h6 => ?_)
    · rw [Bool.not_eq_true'] at h6
      rw [h6]
      conv => whnf
      exact fin0 rfl trivial
    rw [Bool.not_eq_false'] at h6
    rw [h6, Bool.true_and]
    conv => whnf
    refine branch_of (fun h7 => ?_) (fun h7 => ?_)
    · have h7 := of_decide_eq_true h7
      dsimp only at h7
      conv => whnf
      exact fin0 (by unfold plainS; rw [decide_eq_false (by omega), Bool.and_false]) trivial
    have h7 := of_decide_eq_false h7
    dsimp only at h7
    have e : plainS s = s.all plainB := by unfold plainS; rw [decide_eq_true (by omega), Bool.and_true]
    rw [e]
    conv => whnf
    refine loop_of hP [0, 1, 2, 3, 5, 6, 17, 27, 37, 42, 51] [] [1, 2, 3] [65] [] (fun m st => ∃ i : Nat, m = s.length - i ∧ i ≤ s.length ∧ s.all plainB = (s.drop i).all plainB ∧ st = ⟨[(1, .ptr 65 0 0), (2, .bool false), (3, .int .i64 i)], [(65, .box 0 (Val.c ⟨k, n, s⟩))]⟩) s.length ?_ ?_
    · conv => whnf
      exact ⟨0, rfl, Nat.zero_le _, rfl, rfl⟩
    · rintro m st ⟨i, rfl, hi, he, rfl⟩
      conv => whnf
      refine branch_of (fun h8 => ?_) (fun h8 => ?_)
      · have h8 := of_decide_eq_true h8
        have hi' : i < s.length := by dsimp only at h8; omega
        conv => whnf
        refine ⟨s[i], idx hi' rfl, ?_⟩
        conv => whnf
        have hw : IntKind.i64.wrap (s[i].toNat : Int) = s[i].toNat := by have := s[i].toNat_lt; rw [wr (by omega) (by omega)]
        rw [hw]
        refine call0 (in_good s[i].toNat 32 126) ?_
        rw [← plainB_in]
        rw [all_drop hi'] at he
        cases hp : plainB s[i] with
        | false =>
          rw [hp, Bool.false_and] at he
          rw [he]
          conv => whnf
          exact fin0 rfl trivial
        | true =>
          rw [hp, Bool.true_and] at he
          conv => whnf
          refine ⟨s.length - (i + 1), by omega, i + 1, rfl, by omega, he, ?_⟩
          rw [wr (by omega) (by omega)]; rfl
      · have h8 := of_decide_eq_false h8
        have h9 : s.drop i = [] := List.drop_eq_nil_iff.2 (by dsimp only at h8; omega)
        rw [h9] at he
        rw [he]
        conv => whnf
        exact fin0 rfl trivial
  · have h5 : ¬ k = 3 := of_decide_eq_false h5
    rw [if_neg h5]
    conv => whnf
    exact fin0 rfl trivial
end Go.PV
namespace Go.PV
open Go Go.Proofs
set_option maxRecDepth 100000
theorem in9_good (a b c : Int) : Good Tryz.prog 77 [.int .i64 a, .int .i64 b, .int .i64 c] [] [.bool (decide (b ≤ a ∧ a ≤ c))] [] := by
  refine good_of hP Tryz.func77 (by kernel_rfl) (lv := [0, 1, 2, 6]) (js := []) ⟨rfl, rfl, rfl, rfl, rfl, rfl, _, rfl, ?_⟩
  conv => whnf
  refine branch_of (fun h => ?_) (fun h => ?_)
  · have h := of_decide_eq_true h
    conv => whnf
    exact fin0 (by rw [show decide (b ≤ a ∧ a ≤ c) = decide (a ≤ c) from by rw [decide_eq_decide]; omega]) trivial
  · have h := of_decide_eq_false h
    conv => whnf
    exact fin0 (by rw [decide_eq_false (by omega)]) trivial
theorem words_good : Good Tryz.prog 147 [] [] [.sl 1 (strV wordsL)] [] := by
  refine good_of hP Tryz.func147 (by kernel_rfl) (lv := [0]) (js := []) ⟨rfl, rfl, rfl, rfl, rfl, rfl, _, rfl, ?_⟩
  conv => whnf
  exact fin0 rfl trivial
theorem refName_good (s : Bs) (hs : s.length ≤ 1000000) : Good Tryz.prog 85 [.str s] [] [.bool (nameS s)] [] := by
  refine good_of hP Tryz.func85 (by kernel_rfl) (lv := [0, 2, 3, 4, 7, 12, 20]) (js := []) ⟨rfl, rfl, rfl, rfl, rfl, rfl, _, rfl, ?_⟩
  unfold nameS
  conv => whnf
  refine call0 (word_good s false hs) ?_
  cases hw : refWordS false s with
  | false =>
    conv => whnf
    exact fin0 rfl trivial
  | true =>
  rw [Bool.true_and]
  conv => whnf
  refine call0 (words_good) ?_
  conv => whnf
  have hL : wordsL.length = 11 := rfl
  generalize wordsL = L at *
  refine loop_of hP [0, 2, 3, 4, 7, 12, 20] [] [0, 2, 3, 4] [] [] (fun n st => ∃ k : Nat, n = 11 - k ∧ k ≤ 11 ∧ (∀ j (h : j < L.length), j < k → L[j] ≠ s) ∧ st = ⟨[(0, .str s), (2, .bool false), (3, .sl 1 (strV L)), (4, .int .i64 k)], []⟩) 11 ?_ ?_
  · conv => whnf
    exact ⟨0, rfl, by omega, fun j _ h => by omega, rfl⟩
  · rintro n st ⟨k, rfl, hk, hn, rfl⟩
    conv => whnf
    refine branch_of (fun h => ?_) (fun h => ?_)
    · have h := of_decide_eq_true h
      rw [List.length_map] at h
      have hk' : k < L.length := by omega
      conv => whnf
      refine ⟨[.str L[k]], idxM hk' rfl, ?_⟩
      conv => whnf
      refine branch_of (fun h2 => ?_) (fun h2 => ?_)
      · have h2 := of_decide_eq_true h2
        have : decide (s ∈ L) = true := by rw [decide_eq_true_iff, ← h2]; exact List.getElem_mem hk'
        rw [this]
        conv => whnf
        exact fin0 rfl trivial
      · have h2 := of_decide_eq_false h2
        conv => whnf
        refine ⟨11 - (k + 1), by omega, k + 1, rfl, by omega, fun j hj hjk => ?_, ?_⟩
        · by_cases e : j = k
          · subst e; exact h2
          · exact hn j hj (by omega)
        · rw [wr (by omega) (by omega)]; rfl
    · have h := of_decide_eq_false h
      rw [List.length_map] at h
      have : decide (s ∈ L) = false := by
        rw [decide_eq_false_iff_not]; intro hm
        obtain ⟨j, hj, e⟩ := List.getElem_of_mem hm
        exact hn j hj (by omega) e
      rw [this]
      conv => whnf
      exact fin0 rfl trivial
theorem refTerm_good (t : Trm) (h1 : t.v.length ≤ 1000000) (h2 : t.x.s.length ≤ 1000000) : Good Tryz.prog 86 [.agg t.c] [] [.bool (termOk t)] [] := by
  obtain ⟨v, x⟩ := t
  dsimp only at h1 h2
  refine good_of hP Tryz.func86 (by kernel_rfl) (lv := [0, 1, 2, 6]) (js := []) ⟨rfl, rfl, rfl, rfl, rfl, rfl, _, rfl, ?_⟩
  unfold termOk
  dsimp only
  conv => whnf
  refine branch_of (fun h => ?_) (fun h => ?_)
  · have h := of_decide_eq_true h
    have hv : v ≠ [] := by rintro rfl; exact absurd h (show ¬ (0 : Int) < 0 by omega)
    rw [if_neg hv]
    conv => whnf
    refine call0 (word_good v true h1) ?_
    have ev : varS v = refWordS true v := rfl
    rw [← ev]
    cases varS v with
    | false =>
      conv => whnf
      exact fin0 rfl trivial
    | true =>
      conv => whnf
      refine ⟨_, (eqVal x zeroV).1, ?_⟩
      conv => whnf
      exact fin0 rfl trivial
  · have h := of_decide_eq_false h
    have hv : v = [] := List.eq_nil_of_length_eq_zero (by dsimp only at h; omega)
    rw [if_pos hv]
    conv => whnf
    refine call0 (refValue_good x h2) ?_
    conv => whnf
    exact fin0 rfl trivial
/-- what is played of atoms -/
def atmL (a : Atm) : Prop := a.n.length ≤ 1000000 ∧ ∀ t ∈ a.a, t.v.length ≤ 1000000 ∧ t.x.s.length ≤ 1000000
theorem refAtom_good (a : Atm) (hb : atmL a) : Good Tryz.prog 34 [.agg a.c] [] [.bool (atomOk a)] [] := by
  obtain ⟨n, l⟩ := a
  obtain ⟨h1, h2⟩ := hb
  dsimp only at h1 h2
  refine good_of hP Tryz.func34 (by kernel_rfl) (lv := [0, 1, 2, 3, 13, 18, 27]) (js := []) ⟨rfl, rfl, rfl, rfl, rfl, rfl, _, rfl, ?_⟩
  unfold atomOk
  dsimp only
  conv => whnf
  refine call0 (refName_good n h1) ?_
  cases hn : nameS n with
  | false =>
    conv => whnf
    exact fin0 rfl trivial
  | true =>
  rw [Bool.true_and]
  conv => whnf
  refine branch_of (fun h => ?_) (fun h => ?_)
  · have h := of_decide_eq_true h
    rw [List.length_map] at h
    dsimp only at h
    have e : decide (l.length ≤ 5) = false := decide_eq_false (by omega)
    rw [e, Bool.false_and]
    conv => whnf
    exact fin0 rfl trivial
  have h := of_decide_eq_false h
  rw [List.length_map] at h
  dsimp only at h
  have e : decide (l.length ≤ 5) = true := decide_eq_true (by omega)
  rw [e, Bool.true_and]
  conv => whnf
  refine loop_of hP [0, 1, 2, 3, 13, 18, 27] [] [1, 2, 3] [65] [] (fun m st => ∃ k : Nat, m = l.length - k ∧ k ≤ l.length ∧ l.all termOk = (l.drop k).all termOk ∧ st = ⟨[(1, .ptr 65 0 0), (2, .bool false), (3, .int .i64 k)], [(65, .box 0 (Atm.c ⟨n, l⟩))]⟩) l.length ?_ ?_
  · conv => whnf
    exact ⟨0, rfl, Nat.zero_le _, rfl, rfl⟩
  · rintro m st ⟨k, rfl, hk, he, rfl⟩
    conv => whnf
    refine branch_of (fun g => ?_) (fun g => ?_)
    · have g := of_decide_eq_true g
      rw [List.length_map] at g
      have hk' : k < l.length := by dsimp only at g; omega
      rw [List.drop_eq_getElem_cons hk', List.all_cons] at he
      conv => whnf
      refine ⟨Trm.c l[k], idxM hk' rfl, ?_⟩
      conv => whnf
      refine call0 (refTerm_good l[k] (h2 _ (List.getElem_mem hk')).1 (h2 _ (List.getElem_mem hk')).2) ?_
      cases ht : termOk l[k] with
      | false =>
        rw [ht, Bool.false_and] at he
        rw [he]
        conv => whnf
        exact fin0 rfl trivial
      | true =>
        rw [ht, Bool.true_and] at he
        conv => whnf
        refine ⟨l.length - (k + 1), by omega, k + 1, rfl, by omega, he, ?_⟩
        rw [wr (by omega) (by omega)]; rfl
    · have g := of_decide_eq_false g
      rw [List.length_map] at g
      have hd : l.drop k = [] := List.drop_eq_nil_iff.2 (by dsimp only at g; omega)
      rw [hd] at he
      rw [he]
      conv => whnf
      exact fin0 rfl trivial
end Go.PV
namespace Go.PV
open Go Go.Proofs
set_option maxRecDepth 100000
def tok0 : Tok := ⟨0, [], (0, 0)⟩
theorem qtok_good (q : Rf) (hb : tokB q.l) : Good Tryz.prog 156 [.ptr 0 0 0] [q.ob] [.agg (q.tok.getD tok0).c, .bool q.tok.isSome] [q.ob] := by
  obtain ⟨l, i, b⟩ := q
  obtain ⟨hl, ht⟩ := hb
  dsimp only at hl ht
  refine good_of hP Tryz.func156 (by kernel_rfl) (lv := [0, 2, 3, 54]) (js := []) ⟨rfl, rfl, rfl, rfl, rfl, rfl, _, rfl, ?_⟩
  unfold Rf.tok
  dsimp only
  conv => whnf
  refine branch_of (fun h => ?_) (fun h => ?_)
  · have h := of_decide_eq_true h
    rw [List.length_map] at h
    dsimp only at h
    have e : l[i]? = none := List.getElem?_eq_none (by omega)
    rw [e]
    conv => whnf
    refine ⟨by kernel_rfl, ?_⟩
    conv => whnf
    refine ⟨[], rfl, ?_⟩
    conv => whnf
    exact ⟨⟨⟩, rfl, trivial⟩
  have h := of_decide_eq_false h
  rw [List.length_map] at h
  dsimp only at h
  have hi : i < l.length := by omega
  have e : l[i]? = some l[i] := List.getElem?_eq_getElem hi
  rw [e]
  dsimp only
  unfold tokOk
  conv => whnf
  refine ⟨Tok.c l[i], idxM hi rfl, ?_⟩
  conv => whnf
  refine call0 (in9_good l[i].k 1 5) ?_
  cases h1 : decide (1 ≤ l[i].k ∧ l[i].k ≤ 5) with
  | false =>
    rw [Bool.false_and]
    conv => whnf
    refine ⟨by kernel_rfl, ?_⟩
    conv => whnf
    refine ⟨[], rfl, ?_⟩
    conv => whnf
    exact ⟨⟨⟩, rfl, trivial⟩
  | true =>
  rw [Bool.true_and]
  conv => whnf
  refine ⟨Tok.c l[i], idxM hi rfl, ?_⟩
  conv => whnf
  refine ⟨Tok.c l[i], idxM hi rfl, ?_⟩
  conv => whnf
  refine call0 (right_good l[i].k l[i].t (Nat.le_trans (ht _ (List.getElem_mem hi)) (by omega))) ?_
  cases h2 : refRight l[i].k l[i].t with
  | false =>
    conv => whnf
    refine ⟨by kernel_rfl, ?_⟩
    conv => whnf
    refine ⟨[], rfl, ?_⟩
    conv => whnf
    exact ⟨⟨⟩, rfl, trivial⟩
  | true =>
    conv => whnf
    refine ⟨by kernel_rfl, ?_⟩
    conv => whnf
    refine ⟨Tok.c l[i], idxM hi rfl, ?_⟩
    conv => whnf
    refine ⟨by kernel_rfl, ?_⟩
    conv => whnf
    refine ⟨[], rfl, ?_⟩
    conv => whnf
    exact ⟨⟨⟩, rfl, trivial⟩
theorem qis_good (q : Rf) (k : Int) (s : Bs) (hb : tokB q.l) : Good Tryz.prog 134 [.ptr 0 0 0, .int .i64 k, .str s] [q.ob] [.bool (q.is k s)] [q.ob] := by
  refine good_of hP Tryz.func134 (by kernel_rfl) (lv := [0, 1, 2, 6, 7, 8]) (js := []) ⟨rfl, rfl, rfl, rfl, rfl, rfl, _, rfl, ?_⟩
  unfold Rf.is
  conv => whnf
  refine callN [(0, 0)] (qtok_good q hb) ?_ 
  conv => whnf
  refine ⟨⟨⟩, rfl, ?_⟩
  cases q.tok with
  | none =>
    conv => whnf
    refine ⟨[], rfl, ?_⟩
    conv => whnf
    exact ⟨⟨⟩, rfl, trivial⟩
  | some t =>
    dsimp only
    conv => whnf
    refine branch_of (fun h => ?_) (fun h => ?_)
    · have h : decide (t.k = k) = true := h
      rw [h]
      conv => whnf
      refine ⟨[], rfl, ?_⟩
      conv => whnf
      exact ⟨⟨⟩, rfl, trivial⟩
    · have h : decide (t.k = k) = false := h
      rw [h]
      conv => whnf
      refine ⟨[], rfl, ?_⟩
      conv => whnf
      exact ⟨⟨⟩, rfl, trivial⟩
theorem tok_lt {q : Rf} {t : Tok} (h : q.tok = some t) : q.i < q.l.length ∧ t ∈ q.l := by
  unfold Rf.tok at h
  split at h
  · rename_i u hu
    split at h
    · cases h
      exact ⟨(List.getElem?_eq_some_iff.1 hu).1, List.mem_of_getElem? hu⟩
    · cases h
  · cases h
theorem is_lt {q : Rf} {k : Int} {s : Bs} (h : q.is k s = true) : q.i < q.l.length := by
  unfold Rf.is at h
  split at h
  · rename_i t ht; exact (tok_lt ht).1
  · cases h
theorem qtake_good (q : Rf) (k : Int) (s : Bs) (hb : tokB q.l) : Good Tryz.prog 71 [.ptr 0 0 0, .int .i64 k, .str s] [q.ob] [] [(q.take k s).ob] := by
  refine good_of hP Tryz.func71 (by kernel_rfl) (lv := [0, 1, 2, 15]) (js := []) ⟨rfl, rfl, rfl, rfl, rfl, rfl, _, rfl, ?_⟩
  have hl := hb.1
  unfold Rf.take
  conv => whnf
  cases ho : q.ok with
  | false =>
    rw [Bool.false_and, if_neg (by simp)]
    conv => whnf
    refine ⟨[], rfl, ?_⟩
    conv => whnf
    exact ⟨⟨⟩, rfl, trivial⟩
  | true =>
  rw [Bool.true_and]
  conv => whnf
  refine callN [(0, 0)] (qis_good q k s hb) ?_ 
  conv => whnf
  refine ⟨⟨⟩, rfl, ?_⟩
  cases h : q.is k s with
  | false =>
    rw [if_neg (by simp)]
    conv => whnf
    refine ⟨[], rfl, ?_⟩
    conv => whnf
    exact ⟨⟨⟩, rfl, trivial⟩
  | true =>
    rw [if_pos rfl]
    have := is_lt h
    have hw : IntKind.i64.wrap ((q.i : Int) + 1) = (q.i + 1 : Nat) := by rw [wr (by omega) (by omega)]; rfl
    conv => whnf
    rw [hw]
    refine ⟨[], rfl, ?_⟩
    conv => whnf
    exact ⟨⟨⟩, rfl, trivial⟩
theorem qname_good (q : Rf) (hb : tokB q.l) : Good Tryz.prog 97 [.ptr 0 0 0] [q.ob] [.str q.name.1] [q.name.2.ob] := by
  refine good_of hP Tryz.func97 (by kernel_rfl) (lv := [0, 2, 3, 4, 29]) (js := []) ⟨rfl, rfl, rfl, rfl, rfl, rfl, _, rfl, ?_⟩
  have hl := hb.1
  conv => whnf
  refine callN [(0, 0)] (qtok_good q hb) ?_ 
  conv => whnf
  refine ⟨⟨⟩, rfl, ?_⟩
  conv => whnf
  cases hk : q.tok with
  | none =>
    have e : q.name = ([], q.fail) := by unfold Rf.name; rw [hk]
    rw [e]
    cases ho : q.ok with
    | false =>
      conv => whnf
      refine ⟨[], rfl, ?_⟩
      conv => whnf
      exact ⟨⟨⟩, rfl, trivial⟩
    | true =>
      conv => whnf
      refine ⟨[], rfl, ?_⟩
      conv => whnf
      exact ⟨⟨⟩, rfl, trivial⟩
  | some t =>
  obtain ⟨hi, hm⟩ := tok_lt hk
  have hw : IntKind.i64.wrap ((q.i : Int) + 1) = (q.i + 1 : Nat) := by rw [wr (by omega) (by omega)]; rfl
  cases ho : q.ok with
  | false =>
    have e : q.name = ([], q.fail) := by unfold Rf.name; rw [hk]; exact if_neg (fun x => by rw [ho] at x; cases x.1)
    rw [e]
    conv => whnf
    refine ⟨[], rfl, ?_⟩
    conv => whnf
    exact ⟨⟨⟩, rfl, trivial⟩
  | true =>
  conv => whnf
  refine branch_of (fun h => ?_) (fun h => ?_)
  · have h : (!decide (t.k = 1)) = true := h
    rw [Bool.not_eq_true'] at h
    have h := of_decide_eq_false h
    have e : q.name = ([], q.fail) := by unfold Rf.name; rw [hk]; exact if_neg (fun x => h x.2.1)
    rw [e]
    conv => whnf
    refine ⟨[], rfl, ?_⟩
    conv => whnf
    exact ⟨⟨⟩, rfl, trivial⟩
  have h : (!decide (t.k = 1)) = false := h
  rw [Bool.not_eq_false'] at h
  have h := of_decide_eq_true h
  conv => whnf
  refine call0 (refName_good t.t (Nat.le_trans (hb.2 t hm) (by omega))) ?_
  cases hn : nameS t.t with
  | false =>
    have e : q.name = ([], q.fail) := by unfold Rf.name; rw [hk]; exact if_neg (fun x => by rw [hn] at x; cases x.2.2)
    rw [e]
    conv => whnf
    refine ⟨[], rfl, ?_⟩
    conv => whnf
    exact ⟨⟨⟩, rfl, trivial⟩
  | true =>
    have e : q.name = (t.t, q.step) := by unfold Rf.name; rw [hk]; exact if_pos ⟨ho, h, hn⟩
    have hst : q.step = ⟨q.l, q.i + 1, true⟩ := by unfold Rf.step; rw [ho]
    rw [e, hst]
    conv => whnf
    rw [hw]
    refine ⟨[], rfl, ?_⟩
    conv => whnf
    exact ⟨⟨⟩, rfl, trivial⟩
theorem qterm_good (q : Rf) (hb : tokB q.l) : Good Tryz.prog 157 [.ptr 0 0 0] [q.ob] [.agg q.term.1.c] [q.term.2.ob] := by
  refine good_of hP Tryz.func157 (by kernel_rfl) (lv := [0, 2, 3, 4, 5, 7, 27, 40, 41, 46, 57]) (js := []) ⟨rfl, rfl, rfl, rfl, rfl, rfl, _, rfl, ?_⟩
  have hl := hb.1
  conv => whnf
  refine callN [(0, 0)] (qtok_good q hb) ?_ 
  conv => whnf
  refine ⟨⟨⟩, rfl, ?_⟩
  conv => whnf
  cases hk : q.tok with
  | none =>
    have e : q.term = (zeroT, q.fail) := by unfold Rf.term; rw [hk]
    rw [e]
    cases ho : q.ok with
    | false =>
      conv => whnf
      refine ⟨[], rfl, ?_⟩
      conv => whnf
      exact ⟨⟨⟩, rfl, trivial⟩
    | true =>
      conv => whnf
      refine ⟨[], rfl, ?_⟩
      conv => whnf
      exact ⟨⟨⟩, rfl, trivial⟩
  | some t =>
  obtain ⟨hi, hm⟩ := tok_lt hk
  have hw : IntKind.i64.wrap ((q.i : Int) + 1) = (q.i + 1 : Nat) := by rw [wr (by omega) (by omega)]; rfl
  cases ho : q.ok with
  | false =>
    have e : q.term = (zeroT, q.fail) := by unfold Rf.term; rw [hk]; exact if_neg (fun x => by rw [ho] at x; cases x.1)
    rw [e]
    conv => whnf
    refine ⟨[], rfl, ?_⟩
    conv => whnf
    exact ⟨⟨⟩, rfl, trivial⟩
  | true =>
  conv => whnf
  refine branch_of (fun h => ?_) (fun h => ?_)
  · have h : t.k = 5 := of_decide_eq_true h
    have e : q.term = (zeroT, q.fail) := by unfold Rf.term; rw [hk]; exact if_neg (fun x => x.2 h)
    rw [e]
    conv => whnf
    refine ⟨[], rfl, ?_⟩
    conv => whnf
    exact ⟨⟨⟩, rfl, trivial⟩
  have h : ¬ t.k = 5 := of_decide_eq_false h
  have e : q.term = (refTerm t, q.step) := by unfold Rf.term; rw [hk]; exact if_pos ⟨ho, h⟩
  have hst : q.step = ⟨q.l, q.i + 1, true⟩ := by unfold Rf.step; rw [ho]
  rw [e, hst]
  unfold refTerm
  conv => whnf
  rw [hw]
  refine branch_of (fun h2 => ?_) (fun h2 => ?_)
  · have h2 : t.k = 2 := of_decide_eq_true h2
    rw [if_pos h2]
    conv => whnf
    refine ⟨[], rfl, ?_⟩
    conv => whnf
    exact ⟨⟨⟩, rfl, trivial⟩
  have h2 : ¬ t.k = 2 := of_decide_eq_false h2
  rw [if_neg h2]
  conv => whnf
  refine branch_of (fun h3 => ?_) (fun h3 => ?_)
  · have h3 : t.k = 3 := of_decide_eq_true h3
    rw [if_pos h3]
    conv => whnf
    refine call0 (refNumber_good t.t (Nat.le_trans (hb.2 t hm) (by omega))) ?_
    conv => whnf
    refine ⟨[], rfl, ?_⟩
    conv => whnf
    exact ⟨⟨⟩, rfl, trivial⟩
  have h3 : ¬ t.k = 3 := of_decide_eq_false h3
  rw [if_neg h3]
  conv => whnf
  refine branch_of (fun h4 => ?_) (fun h4 => ?_)
  · have h4 : t.k = 4 := of_decide_eq_true h4
    rw [if_pos h4]
    conv => whnf
    refine call0 (refQuoted_good t.t (Nat.le_trans (hb.2 t hm) (by omega))) ?_
    conv => whnf
    refine ⟨[], rfl, ?_⟩
    conv => whnf
    exact ⟨⟨⟩, rfl, trivial⟩
  have h4 : ¬ t.k = 4 := of_decide_eq_false h4
  rw [if_neg h4]
  conv => whnf
  refine ⟨[], rfl, ?_⟩
  conv => whnf
  exact ⟨⟨⟩, rfl, trivial⟩
end Go.PV
namespace Go.PV
open Go Go.Proofs
set_option maxRecDepth 100000
theorem qatom_no {q : Rf} (h : (q.name.2.ok && q.name.2.is 5 [40]) = false) : q.atom = (⟨q.name.1, []⟩, q.name.2) := by
  unfold Rf.atom; rw [if_neg (by rw [h]; simp)]
theorem qatom_yes {q : Rf} (h : (q.name.2.ok && q.name.2.is 5 [40]) = true) : q.atom = (⟨q.name.1, q.name.2.step.term.1 :: (Rf.args q.name.2.l.length q.name.2.step.term.2).1⟩, (Rf.args q.name.2.l.length q.name.2.step.term.2).2.take 5 [41]) := by
  unfold Rf.atom; rw [if_pos h]
theorem qatom_good (q : Rf) (hb : tokB q.l) : Good Tryz.prog 98 [.ptr 0 0 0] [q.ob] [.agg q.atom.1.c] [q.atom.2.ob] := by
  have hl := hb.1
  refine good_of hP Tryz.func98 (by kernel_rfl) (lv := [0, 2, 3, 16, 39]) (js := []) ⟨rfl, rfl, rfl, rfl, rfl, rfl, _, rfl, ?_⟩
  have hn := Rf.name_l q
  conv => whnf
  refine callN [(0, 0)] (qname_good q hb) ?_ 
  conv => whnf
  refine ⟨⟨⟩, rfl, ?_⟩
  have hy := qatom_yes (q := q)
  have hno := qatom_no (q := q)
  generalize hx : q.name = x at *
  obtain ⟨n, ⟨xl, xi, xo⟩⟩ := x
  dsimp only at hn hy hno
  obtain rfl : xl = q.l := hn.1
  conv => whnf
  cases xo with
  | false =>
    rw [hno rfl]
    conv => whnf
    refine ⟨[], rfl, ?_⟩
    conv => whnf
    exact ⟨⟨⟩, rfl, trivial⟩
  | true =>
  conv => whnf
  refine callN [(0, 0)] (qis_good ⟨q.l, xi, true⟩ 5 [40] hb) ?_ 
  conv => whnf
  refine ⟨⟨⟩, rfl, ?_⟩
  cases hs : (⟨q.l, xi, true⟩ : Rf).is 5 [40] with
  | false =>
    rw [hno (by rw [hs]; rfl)]
    conv => whnf
    refine ⟨[], rfl, ?_⟩
    conv => whnf
    exact ⟨⟨⟩, rfl, trivial⟩
  | true =>
  rw [hy (by rw [hs]; rfl)]
  have hlt : xi < q.l.length := is_lt hs
  have hw : IntKind.i64.wrap ((xi : Int) + 1) = (xi + 1 : Nat) := by rw [wr (by omega) (by omega)]; rfl
  conv => whnf
  rw [hw]
  have h1 := Rf.term_l ⟨q.l, xi + 1, true⟩
  refine callN [(0, 0)] (qterm_good ⟨q.l, xi + 1, true⟩ hb) ?_ 
  conv => whnf
  refine ⟨⟨⟩, rfl, ?_⟩
  have hst : (⟨q.l, xi, true⟩ : Rf).step = ⟨q.l, xi + 1, true⟩ := rfl
  rw [hst]
  generalize hz : (⟨q.l, xi + 1, true⟩ : Rf).term = y at *
  have hyl : y.2.l = q.l := h1.1
  generalize hU : Rf.args q.l.length y.2 = U
  conv => whnf
  refine ⟨⟨⟩, by dsimp only; simp only [List.length_cons, List.length_nil]; omega, ?_⟩
  conv => whnf
  refine ⟨by kernel_rfl, ?_⟩
  conv => whnf
  refine loop_of hP [0, 2, 3, 16, 39] [] [0, 2, 3] [0, 66, 67, 94] [] (fun m st => ∃ (f : Nat) (ts : List Trm) (p : Rf), m = p.l.length - p.i ∧ p.l = q.l ∧ p.l.length ≤ f + p.i ∧ f + ts.length = q.l.length ∧ U = (ts ++ (Rf.args f p).1, (Rf.args f p).2) ∧
    st = ⟨[(0, .ptr 0 0 0), (2, .ptr 66 0 0), (3, .ptr 67 0 0)], [(0, p.ob), (66, .box 0 [.str [], .nil]), (67, .box 0 [.str n, .own 94 0]), (94, .arr 0 false 4 (trmV (y.1 :: ts)))]⟩) (y.2.l.length - y.2.i) ?_ ?_
  · conv => whnf
    exact ⟨q.l.length, [], y.2, rfl, hyl, by rw [hyl]; omega, rfl, hU.symm, rfl⟩
  · rintro m st ⟨f, ts, ⟨pl, pi, po⟩, rfl, hp, hf, hts, he, rfl⟩
    dsimp only at hp hf
    subst hp
    conv => whnf
    cases po with
    | false =>
      have hu : Rf.args f ⟨q.l, pi, false⟩ = ([], ⟨q.l, pi, false⟩) := by cases f <;> rfl
      rw [hu, List.append_nil] at he
      subst he
      conv => whnf
      refine callN [(0, 0)] (qtake_good ⟨q.l, pi, false⟩ 5 [41] hb) ?_ 
      conv => whnf
      refine ⟨⟨⟩, rfl, ?_⟩
      conv => whnf
      refine ⟨[], rfl, ?_⟩
      conv => whnf
      exact ⟨⟨⟩, rfl, trivial⟩
    | true =>
    conv => whnf
    refine callN [(0, 0)] (qis_good ⟨q.l, pi, true⟩ 5 [44] hb) ?_ 
    conv => whnf
    refine ⟨⟨⟩, rfl, ?_⟩
    cases hs2 : (⟨q.l, pi, true⟩ : Rf).is 5 [44] with
    | false =>
      have hu : Rf.args f ⟨q.l, pi, true⟩ = ([], ⟨q.l, pi, true⟩) := by cases f with
        | zero => rfl
        | succ f => rw [Rf.args, hs2]; rfl
      rw [hu, List.append_nil] at he
      subst he
      conv => whnf
      refine callN [(0, 0)] (qtake_good ⟨q.l, pi, true⟩ 5 [41] hb) ?_ 
      conv => whnf
      refine ⟨⟨⟩, rfl, ?_⟩
      conv => whnf
      refine ⟨[], rfl, ?_⟩
      conv => whnf
      exact ⟨⟨⟩, rfl, trivial⟩
    | true =>
      have hlt2 : pi < q.l.length := is_lt hs2
      obtain ⟨f, rfl⟩ : ∃ f', f = f' + 1 := ⟨f - 1, by omega⟩
      rw [Rf.args, hs2] at he
      have hw2 : IntKind.i64.wrap ((pi : Int) + 1) = (pi + 1 : Nat) := by rw [wr (by omega) (by omega)]; rfl
      conv => whnf
      rw [hw2]
      have h2 := Rf.term_l ⟨q.l, pi + 1, true⟩
      have hst2 : (⟨q.l, pi, true⟩ : Rf).step = ⟨q.l, pi + 1, true⟩ := rfl
      rw [hst2] at he
      refine callN [(0, 0)] (qterm_good ⟨q.l, pi + 1, true⟩ hb) ?_ 
      conv => whnf
      refine ⟨⟨⟩, rfl, ?_⟩
      generalize hzz : (⟨q.l, pi + 1, true⟩ : Rf).term = z at *
      have h3 : z.2.l = q.l := h2.1
      have h4 : pi + 1 ≤ z.2.i := h2.2.1
      have hU2 : U = ((ts ++ [z.1]) ++ (Rf.args f z.2).1, (Rf.args f z.2).2) := by rw [he]; simp
      conv => whnf
      refine ⟨⟨⟩, by dsimp only; simp only [List.length_map, List.length_cons, List.length_nil]; omega, ?_⟩
      conv => whnf
      refine ⟨by kernel_rfl, ?_⟩
      conv => whnf
      refine ⟨z.2.l.length - z.2.i, by show z.2.l.length - z.2.i < q.l.length - pi; rw [h3]; omega, f, ts ++ [z.1], z.2, rfl, h3, by rw [h3]; omega, by simp; omega, hU2, ?_⟩
      rw [show trmV (y.1 :: (ts ++ [z.1])) = trmV (y.1 :: ts) ++ [z.1.c] from by simp]
theorem refQGo_len : ∀ (s out : Bs), (refQGo out s).1.length ≤ out.length + s.length := by
  intro s out
  fun_induction refQGo out s <;> simp_all <;> omega
theorem refQuoted_len (s : Bs) : (refQuotedS s).1.length ≤ s.length := by
  unfold refQuotedS
  split
  · split
    · have := refQGo_len (by assumption) []
      rename_i c d r _
      have := refQGo_len (d :: r) []
      simp at this ⊢; omega
    · simp
  · simp
def trmL (t : Trm) : Prop := t.v.length ≤ 1000000 ∧ t.x.s.length ≤ 1000000
theorem Rf.name_b {q : Rf} (hb : tokB q.l) : q.name.1.length ≤ 1000000 := by
  unfold Rf.name
  split
  · rename_i t ht
    split
    · exact Nat.le_trans (hb.2 t (tok_lt ht).2) (by omega)
    · simp
  · simp
theorem Rf.term_b {q : Rf} (hb : tokB q.l) : trmL q.term.1 := by
  unfold Rf.term
  split
  · rename_i t ht
    have h := hb.2 t (tok_lt ht).2
    split
    · unfold refTerm trmL
      have hq := refQuoted_len t.t
      split
      · exact ⟨Nat.le_trans h (by omega), Nat.zero_le _⟩
      · split
        · exact ⟨Nat.zero_le _, Nat.zero_le _⟩
        · split
          · exact ⟨Nat.zero_le _, Nat.le_trans hq (Nat.le_trans h (by omega))⟩
          · exact ⟨Nat.zero_le _, Nat.le_trans h (by omega)⟩
    · exact ⟨Nat.zero_le _, Nat.zero_le _⟩
  · exact ⟨Nat.zero_le _, Nat.zero_le _⟩
theorem Rf.args_b : ∀ (f : Nat) {q : Rf}, tokB q.l → ∀ t ∈ (Rf.args f q).1, trmL t
  | 0, q, hb => fun t ht => by cases ht
  | f + 1, q, hb => by
    rw [Rf.args]
    split
    · intro t ht
      have h1 := Rf.term_l q.step
      rcases List.mem_cons.1 ht with rfl | ht
      · exact Rf.term_b (q := q.step) hb
      · exact Rf.args_b f (q := q.step.term.2) (by rw [h1.1]; exact hb) t ht
    · intro t ht; cases ht
theorem Rf.atom_b {q : Rf} (hb : tokB q.l) : atmL q.atom.1 := by
  have hn := Rf.name_l q
  have hnb := Rf.name_b hb
  cases h : (q.name.2.ok && q.name.2.is 5 [40]) with
  | false => rw [qatom_no h]; exact ⟨hnb, fun t ht => by cases ht⟩
  | true =>
    rw [qatom_yes h]
    have hb2 : tokB q.name.2.step.l := by show tokB q.name.2.l; rw [hn.1]; exact hb
    have h1 := Rf.term_l q.name.2.step
    refine ⟨hnb, fun t ht => ?_⟩
    rcases List.mem_cons.1 ht with rfl | ht
    · exact Rf.term_b hb2
    · exact Rf.args_b _ (by rw [h1.1]; exact hb2) t ht
end Go.PV
namespace Go.PV
open Go Go.Proofs
set_option maxRecDepth 100000
theorem dec_big {u : Nat} (h : ¬ u < 10) : Lib.decDigits u = Lib.decDigits (u / 10) ++ [UInt8.ofNat (48 + u % 10)] := by rw [Lib.decDigits, dif_neg h]
theorem wru8 (n : Int) : IntKind.u8.wrap n = n % 256 := rfl
theorem digits_nat (n : Nat) (hn : n ≤ 4611686018427387904) : Good Tryz.prog 125 [.int .i64 n] [] [.str (Lib.decDigits n)] [] := by
  refine good_of hP Tryz.func125 (by kernel_rfl) (lv := [0, 2, 3, 5, 16]) (js := []) ⟨rfl, rfl, rfl, rfl, rfl, rfl, _, rfl, ?_⟩
  have hDl : (Lib.decDigits n).length ≤ 1000 := by
    rw [Lib.decDigits_length]
    have := nDigits_le 19 n (by omega) (by omega)
    omega
  generalize hD : Lib.decDigits n = D at *
  conv => whnf
  refine loop_of hP [0, 2, 3, 5, 16] [] [0, 2, 3] [] [] (fun m st => ∃ (u : Nat) (X : Bs), m = 2 * u + (if X = [] then 1 else 0) ∧ u ≤ 4611686018427387904 ∧ D = (if u = 0 ∧ X ≠ [] then X else Lib.decDigits u ++ X) ∧ st = ⟨[(0, .int .i64 u), (2, .str []), (3, .str X)], []⟩) (2 * n + 1) ?_ ?_
  · conv => whnf
    exact ⟨n, [], rfl, hn, by rw [if_neg (fun h => h.2 rfl), List.append_nil, hD], rfl⟩
  · rintro m st ⟨u, X, rfl, hu, he, rfl⟩
    by_cases hx : u = 0 ∧ X ≠ []
    · obtain ⟨rfl, hX⟩ := hx
      rw [if_pos ⟨rfl, hX⟩] at he
      subst he
      conv => whnf
      have e : decide (((List.length D : Nat) : Int) = 0) = false := decide_eq_false (fun h => hX (List.eq_nil_of_length_eq_zero (by omega)))
      rw [e]
      conv => whnf
      exact fin0 rfl trivial
    · rw [if_neg hx] at he
      have hXl : X.length ≤ 1000 := by have := congrArg List.length he; rw [List.length_append] at this; omega
      have q1 : ((u : Nat) : Int).tmod 10 = ((u % 10 : Nat) : Int) := by
        rw [Int.tmod_eq_emod_of_nonneg (by omega)]; omega
      have q2 : IntKind.i64.wrap (((u : Nat) : Int).tdiv 10) = ((u / 10 : Nat) : Int) := by
        rw [Int.tdiv_eq_ediv_of_nonneg (by omega), wr (by omega) (by omega)]; omega
      have q3 : IntKind.u8.wrap (IntKind.i64.wrap (48 + ((u % 10 : Nat) : Int))) = ((48 + u % 10 : Nat) : Int) := by
        rw [wr (by omega) (by omega), wru8]; omega
      conv => whnf
      refine branch_of (fun h => ?_) (fun h => ?_)
      · have h := of_decide_eq_true h
        conv => whnf
        refine ⟨⟨⟩, by decide, ?_⟩
        conv => whnf
        rw [q1]
        refine ⟨⟨⟩, fun y hy => ⟨_, List.mem_singleton.1 hy⟩, ?_⟩
        conv => whnf
        rw [q3]
        have e5 : List.map (fun y => UInt8.ofNat (numOf y).toNat) [[V.int .u8 ((48 + u % 10 : Nat) : Int)]] = [UInt8.ofNat (48 + u % 10)] := rfl
        rw [e5]
        refine ⟨⟨⟩, by show 1 + X.length ≤ 9223372036854775807; omega, ?_⟩
        conv => whnf
        refine ⟨⟨⟩, by decide, ?_⟩
        conv => whnf
        rw [q2]
        refine ⟨2 * (u / 10) + 0, by split <;> omega, u / 10, UInt8.ofNat (48 + u % 10) :: X, rfl, by omega, ?_, rfl⟩
        by_cases hs : u < 10
        · rw [if_pos ⟨by omega, by simp⟩, he, Lib.decDigits, dif_pos hs, show u % 10 = u by omega]; rfl
        · rw [if_neg (by omega), he, dec_big hs, List.append_assoc]; rfl
      · have h := of_decide_eq_false h
        have hu0 : u = 0 := by omega
        have hX : X = [] := Decidable.byContradiction fun e => hx ⟨hu0, e⟩
        subst hu0 hX
        conv => whnf
        refine ⟨⟨⟩, by decide, ?_⟩
        conv => whnf
        refine ⟨⟨⟩, fun y hy => ⟨_, List.mem_singleton.1 hy⟩, ?_⟩
        conv => whnf
        refine ⟨⟨⟩, by decide, ?_⟩
        conv => whnf
        refine ⟨⟨⟩, by decide, ?_⟩
        conv => whnf
        refine ⟨0, by decide, 0, [48], rfl, by omega, ?_, rfl⟩
        rw [if_pos ⟨rfl, by simp⟩, he, Lib.decDigits, dif_pos (by omega)]; rfl
theorem refDigits_good (n : Int) (hn : inR n = true) : Good Tryz.prog 125 [.int .i64 n] [] [.str (Lib.itoa n)] [] := by
  have hl := itoa_len hn
  have hr := hn
  unfold inR at hr
  have hr := of_decide_eq_true hr
  by_cases h0 : n < 0
  · refine good_of hP Tryz.func125 (by kernel_rfl) (lv := [0, 2, 3, 5, 16]) (js := []) ⟨rfl, rfl, rfl, rfl, rfl, rfl, _, rfl, ?_⟩
    conv => whnf
    refine branch_of (fun h => ?_) (fun h => ?_)
    · conv => whnf
      have e : IntKind.i64.wrap (0 - n) = ((n.natAbs : Nat) : Int) := by rw [wr (by omega) (by omega)]; omega
      rw [e]
      refine call0 (digits_nat n.natAbs (by omega)) ?_
      have e2 : Lib.itoa n = 45 :: Lib.decDigits n.natAbs := by unfold Lib.itoa; rw [if_pos h0]
      rw [e2] at hl ⊢
      rw [List.length_cons] at hl
      conv => whnf
      refine ⟨⟨⟩, by show 1 + (Lib.decDigits n.natAbs).length ≤ 9223372036854775807; omega, ?_⟩
      conv => whnf
      exact fin0 rfl trivial
    · have h := of_decide_eq_false h; omega
  · have e2 : Lib.itoa n = Lib.decDigits n.toNat := by unfold Lib.itoa; rw [if_neg h0]
    have e3 : ((n.toNat : Nat) : Int) = n := by omega
    have := digits_nat n.toNat (by omega)
    rw [e3] at this
    rw [e2]; exact this
theorem refVText_good (v : Val) (h : checkS v = true) : Good Tryz.prog 140 [.agg v.c] [] [.str (textV v)] [] := by
  have hl := textV_len h
  have ht : textV v = if v.k = 1 then Lib.itoa v.n else if v.k = 2 then v.s else quotedS v.s := by unfold textV; rw [if_pos h]
  rw [ht] at hl ⊢
  obtain ⟨k, n, s⟩ := v
  dsimp only at hl ⊢
  refine good_of hP Tryz.func140 (by kernel_rfl) (lv := [0, 1, 2, 3, 4, 6, 7, 12, 20, 34]) (js := []) ⟨rfl, rfl, rfl, rfl, rfl, rfl, _, rfl, ?_⟩
  conv => whnf
  refine branch_of (fun h1 => ?_) (fun h1 => ?_)
  · have h1 : k = 1 := of_decide_eq_true h1
    rw [if_pos h1]
    have hr : inR n = true := by
      unfold checkS at h
      dsimp only at h
      rw [if_pos h1, Bool.and_eq_true] at h
      exact h.1
    conv => whnf
    refine call0 (refDigits_good n hr) ?_
    conv => whnf
    exact fin0 rfl trivial
  have h1 : ¬ k = 1 := of_decide_eq_false h1
  rw [if_neg h1] at hl ⊢
  conv => whnf
  refine branch_of (fun h2 => ?_) (fun h2 => ?_)
  · have h2 : k = 2 := of_decide_eq_true h2
    rw [if_pos h2]
    conv => whnf
    exact fin0 rfl trivial
  have h2 : ¬ k = 2 := of_decide_eq_false h2
  rw [if_neg h2] at hl ⊢
  have hsl : s.length ≤ 60 := by
    unfold checkS at h
    dsimp only at h
    rw [if_neg h1, if_neg h2] at h
    split at h
    · unfold plainS at h; simp at h; exact h.2.2
    · cases h
  conv => whnf
  refine loop_of hP [0, 1, 2, 3, 4, 6, 7, 12, 20, 34] [] [1, 2, 3, 4] [65] [] (fun m st => ∃ i : Nat, m = s.length - i ∧ i ≤ s.length ∧ st = ⟨[(1, .ptr 65 0 0), (2, .str []), (3, .str (34 :: (s.take i).flatMap quoteB)), (4, .int .i64 i)], [(65, .box 0 (Val.c ⟨k, n, s⟩))]⟩) s.length ?_ ?_
  · conv => whnf
    exact ⟨0, rfl, Nat.zero_le _, rfl⟩
  · rintro m st ⟨i, rfl, hi, rfl⟩
    have hfl := flatMap_len (s.take i)
    rw [List.length_take] at hfl
    conv => whnf
    refine branch_of (fun g => ?_) (fun g => ?_)
    · have g := of_decide_eq_true g
      have hi' : i < s.length := by dsimp only at g; omega
      have hsn : (s.take (i + 1)).flatMap quoteB = (s.take i).flatMap quoteB ++ quoteB s[i] := flatMap_snoc' quoteB s hi'
      conv => whnf
      refine ⟨s[i], idx hi' rfl, ?_⟩
      have hw : IntKind.i64.wrap ((i : Int) + 1) = ((i + 1 : Nat) : Int) := by rw [wr (by omega) (by omega)]; rfl
      have hcut : List.drop ((i : Nat) : Int).toNat (List.take ((i + 1 : Nat) : Int).toNat s) = [s[i]] := sub1 hi'
      conv => whnf
      refine branch_of (fun g1 => ?_) (fun g1 => ?_)
      · have g1 := of_decide_eq_true g1
        have hq : quoteB s[i] = [92, s[i]] := by unfold quoteB escB; rw [if_pos (by simp; omega)]
        conv => whnf
        refine ⟨⟨⟩, by dsimp only; simp only [List.length_cons, List.length_nil]; omega, ?_⟩
        conv => whnf
        rw [hw]
        refine ⟨⟨⟩, ⟨by omega, by omega, by show ((i + 1 : Nat) : Int) ≤ (s.length : Int); omega⟩, ?_⟩
        conv => whnf
        rw [hcut]
        refine ⟨⟨⟩, by simp only [List.length_append, List.length_cons, List.length_nil]; omega, ?_⟩
        conv => whnf
        refine ⟨s.length - (i + 1), by omega, i + 1, rfl, by omega, ?_⟩
        rw [hsn, hq, hw]
        have e : (34 :: (List.flatMap quoteB (List.take i s) ++ [92, s[i]]) : Bs) = (34 :: List.flatMap quoteB (List.take i s)) ++ [92] ++ [s[i]] := by simp
        rw [e]
      have g1 := of_decide_eq_false g1
      conv => whnf
      refine ⟨s[i], idx hi' rfl, ?_⟩
      conv => whnf
      refine branch_of (fun g2 => ?_) (fun g2 => ?_)
      · have g2 := of_decide_eq_true g2
        have hq : quoteB s[i] = [92, s[i]] := by unfold quoteB escB; rw [if_pos (by simp; omega)]
        conv => whnf
        refine ⟨⟨⟩, by dsimp only; simp only [List.length_cons, List.length_nil]; omega, ?_⟩
        conv => whnf
        rw [hw]
        refine ⟨⟨⟩, ⟨by omega, by omega, by show ((i + 1 : Nat) : Int) ≤ (s.length : Int); omega⟩, ?_⟩
        conv => whnf
        rw [hcut]
        refine ⟨⟨⟩, by simp only [List.length_append, List.length_cons, List.length_nil]; omega, ?_⟩
        conv => whnf
        refine ⟨s.length - (i + 1), by omega, i + 1, rfl, by omega, ?_⟩
        rw [hsn, hq, hw]
        have e : (34 :: (List.flatMap quoteB (List.take i s) ++ [92, s[i]]) : Bs) = (34 :: List.flatMap quoteB (List.take i s)) ++ [92] ++ [s[i]] := by simp
        rw [e]
      · have g2 := of_decide_eq_false g2
        have hq : quoteB s[i] = [s[i]] := by unfold quoteB escB; rw [if_neg (by simp; omega)]
        conv => whnf
        rw [hw]
        refine ⟨⟨⟩, ⟨by omega, by omega, by show ((i + 1 : Nat) : Int) ≤ (s.length : Int); omega⟩, ?_⟩
        conv => whnf
        rw [hcut]
        refine ⟨⟨⟩, by simp only [List.length_cons, List.length_nil]; omega, ?_⟩
        conv => whnf
        refine ⟨s.length - (i + 1), by omega, i + 1, rfl, by omega, ?_⟩
        rw [hsn, hq, hw]
        rfl
    · have g := of_decide_eq_false g
      have e : s.take i = s := List.take_of_length_le (by dsimp only at g; omega)
      rw [e]
      rw [e] at hfl
      conv => whnf
      refine ⟨⟨⟩, by dsimp only; simp only [List.length_cons, List.length_nil]; omega, ?_⟩
      conv => whnf
      exact fin0 rfl trivial
/-- a text of parts, so far -/
def accS (n : Bs) : List Bs → Bs
  | [] => n
  | p :: r => n ++ [40] ++ p ++ Lib.joinTail [44, 32] r
theorem accS_snoc (n : Bs) (ps : List Bs) (p : Bs) : accS n (ps ++ [p]) = accS n ps ++ (if ps = [] then [40] else [44, 32]) ++ p := by
  cases ps with
  | nil => simp [accS, Lib.joinTail]
  | cons q r => simp [accS, Lib.joinTail]
theorem accS_end (n : Bs) {ps : List Bs} (h : ps ≠ []) : accS n ps ++ [41] = n ++ [40] ++ Lib.join ps [44, 32] ++ [41] := by
  cases ps with
  | nil => exact absurd rfl h
  | cons q r => simp [accS, Lib.join_cons]
theorem accS_len (n : Bs) (ps : List Bs) (b : Nat) (h : ∀ p ∈ ps, p.length ≤ b) : (accS n ps).length ≤ n.length + (b + 2) * ps.length := by
  cases ps with
  | nil => simp [accS]
  | cons q r =>
    have hq := h q (by simp)
    have : ∀ r : List Bs, (∀ p ∈ r, p.length ≤ b) → (Lib.joinTail [44, 32] r).length ≤ (b + 2) * r.length := fun r => by
      induction r with
      | nil => intro _; simp [Lib.joinTail]
      | cons x r ih =>
        intro hx
        have h1 := ih (fun p hp => hx p (by simp [hp]))
        have h2 := hx x (by simp)
        simp only [Lib.joinTail] at h1 ⊢
        simp only [List.map_cons, List.flatten_cons, List.length_append, List.length_cons, List.length_nil, Nat.mul_succ]
        omega
    have h1 := this r (fun p hp => h p (by simp [hp]))
    simp only [accS, List.length_append, List.length_cons, List.length_nil, Nat.mul_succ]
    omega
end Go.PV
namespace Go.PV
open Go Go.Proofs
set_option maxRecDepth 100000
theorem qfit_good (s : Bs) (h : s.length ≤ 1000000) : Good Tryz.prog 46 [.str s] [] [.str (if 20000 < s.length then [] else s), .int .i64 (if 20000 < s.length then 2 else 0)] [] := by
  refine good_of hP Tryz.func46 (by kernel_rfl) (lv := [0, 2, 3, 6]) (js := []) ⟨rfl, rfl, rfl, rfl, rfl, rfl, _, rfl, ?_⟩
  conv => whnf
  refine branch_of (fun h1 => ?_) (fun h1 => ?_)
  · have h1 := of_decide_eq_true h1
    rw [if_pos (by omega), if_pos (by omega)]
    conv => whnf
    exact fin0 rfl trivial
  · have h1 := of_decide_eq_false h1
    rw [if_neg (by omega), if_neg (by omega)]
    conv => whnf
    exact fin0 rfl trivial
theorem qtermT_good (t : Trm) (h : termOk t = true) : Good Tryz.prog 158 [.agg t.c] [] [.str (termT t)] [] := by
  have hx : t.v = [] → checkS t.x = true := fun e => by
    unfold termOk at h
    rw [if_pos e] at h
    exact h
  obtain ⟨v, x⟩ := t
  dsimp only at hx
  refine good_of hP Tryz.func158 (by kernel_rfl) (lv := [0, 1, 2, 6]) (js := []) ⟨rfl, rfl, rfl, rfl, rfl, rfl, _, rfl, ?_⟩
  unfold termT
  dsimp only
  conv => whnf
  refine branch_of (fun h1 => ?_) (fun h1 => ?_)
  · have h1 := of_decide_eq_true h1
    dsimp only at h1
    rw [if_neg (by rintro rfl; exact absurd h1 (by simp))]
    conv => whnf
    exact fin0 rfl trivial
  · have h1 := of_decide_eq_false h1
    dsimp only at h1
    have hv : v = [] := List.eq_nil_of_length_eq_zero (by omega)
    rw [if_pos hv]
    conv => whnf
    refine call0 (refVText_good x (hx hv)) ?_
    conv => whnf
    exact fin0 rfl trivial
theorem atomT_acc (a : Atm) : atomT a = if a.a = [] then a.n else accS a.n (a.a.map termT) ++ [41] := by
  split
  · rename_i h; exact atomT_nil h
  · rename_i h; rw [accS_end _ (by simp [h]), atomT_join h]
theorem qatomT_good (a : Atm) (h : atomOk a = true) : Good Tryz.prog 100 [.agg a.c] [] [.str (atomT a)] [] := by
  obtain ⟨n, l⟩ := a
  have hk := h
  unfold atomOk at hk
  simp only [Bool.and_eq_true, decide_eq_true_eq] at hk
  obtain ⟨⟨hnm, hl5⟩, hall⟩ := hk
  have hn : n.length ≤ 24 := by
    unfold nameS refWordS at hnm
    simp at hnm; omega
  have hl5 : l.length ≤ 5 := hl5
  have hall : l.all termOk = true := hall
  refine good_of hP Tryz.func100 (by kernel_rfl) (lv := [0, 1, 2, 3, 4, 11, 15, 31]) (js := []) ⟨rfl, rfl, rfl, rfl, rfl, rfl, _, rfl, ?_⟩
  have e0 : atomT ⟨n, l⟩ = if l = [] then n else accS n (l.map termT) ++ [41] := atomT_acc ⟨n, l⟩
  rw [e0]
  have hb : ∀ k : Nat, ∀ p ∈ (l.take k).map termT, p.length ≤ 122 := fun k p hp => by
    obtain ⟨v, hv, rfl⟩ := List.mem_map.1 hp
    exact termT_len (List.all_eq_true.1 hall v (List.mem_of_mem_take hv))
  conv => whnf
  refine loop_of hP [0, 1, 2, 3, 4, 11, 15, 31] [] [1, 2, 3, 4] [65] [] (fun m st => ∃ k : Nat, m = l.length - k ∧ k ≤ l.length ∧ st = ⟨[(1, .ptr 65 0 0), (2, .str []), (3, .str (accS n ((l.take k).map termT))), (4, .int .i64 k)], [(65, .box 0 (Atm.c ⟨n, l⟩))]⟩) l.length ?_ ?_
  · conv => whnf
    exact ⟨0, rfl, Nat.zero_le _, rfl⟩
  · rintro m st ⟨k, rfl, hkl, rfl⟩
    have hal := accS_len n ((l.take k).map termT) 122 (hb k)
    rw [List.length_map, List.length_take] at hal
    conv => whnf
    refine branch_of (fun g => ?_) (fun g => ?_)
    · have g := of_decide_eq_true g
      rw [List.length_map] at g
      have hk' : k < l.length := by dsimp only at g; omega
      have hck : termOk l[k] = true := List.all_eq_true.1 hall _ (List.getElem_mem hk')
      have hvl := termT_len hck
      have hsn : accS n ((l.take (k + 1)).map termT) = accS n ((l.take k).map termT) ++ (if (l.take k).map termT = [] then [40] else [44, 32]) ++ termT l[k] := by
        rw [map_snoc _ l hk', accS_snoc]
      have hw : IntKind.i64.wrap ((k : Int) + 1) = ((k + 1 : Nat) : Int) := by rw [wr (by omega) (by omega)]; rfl
      conv => whnf
      refine branch_of (fun g1 => ?_) (fun g1 => ?_)
      · have g1 := of_decide_eq_true g1
        have hk0 : k = 0 := by omega
        rw [if_pos (by rw [hk0]; rfl)] at hsn
        conv => whnf
        refine ⟨⟨⟩, by dsimp only; simp only [List.length_cons, List.length_nil]; omega, ?_⟩
        conv => whnf
        refine ⟨Trm.c l[k], idxM hk' rfl, ?_⟩
        conv => whnf
        refine call0 (qtermT_good l[k] hck) ?_
        conv => whnf
        refine ⟨⟨⟩, by simp only [List.length_append, List.length_cons, List.length_nil]; omega, ?_⟩
        conv => whnf
        refine ⟨l.length - (k + 1), by omega, k + 1, rfl, by omega, ?_⟩
        rw [hsn, hw]
      · have g1 := of_decide_eq_false g1
        rw [if_neg (by rw [List.map_eq_nil_iff, List.take_eq_nil_iff]; rintro (e | e); exact g1 (by omega); rw [e] at hk'; simp at hk')] at hsn
        conv => whnf
        refine ⟨⟨⟩, by dsimp only; simp only [List.length_cons, List.length_nil]; omega, ?_⟩
        conv => whnf
        refine ⟨Trm.c l[k], idxM hk' rfl, ?_⟩
        conv => whnf
        refine call0 (qtermT_good l[k] hck) ?_
        conv => whnf
        refine ⟨⟨⟩, by simp only [List.length_append, List.length_cons, List.length_nil]; omega, ?_⟩
        conv => whnf
        refine ⟨l.length - (k + 1), by omega, k + 1, rfl, by omega, ?_⟩
        rw [hsn, hw]
    · have g := of_decide_eq_false g
      rw [List.length_map] at g
      have e : l.take k = l := List.take_of_length_le (by dsimp only at g; omega)
      rw [e] at hal ⊢
      conv => whnf
      refine branch_of (fun g2 => ?_) (fun g2 => ?_)
      · have g2 := of_decide_eq_true g2
        rw [List.length_map] at g2
        have hne : l ≠ [] := by rintro rfl; exact absurd g2 (by simp)
        rw [if_neg hne]
        conv => whnf
        refine ⟨⟨⟩, by dsimp only; simp only [List.length_cons, List.length_nil]; omega, ?_⟩
        conv => whnf
        exact fin0 rfl trivial
      · have g2 := of_decide_eq_false g2
        rw [List.length_map] at g2
        have hne : l = [] := List.eq_nil_of_length_eq_zero (by dsimp only at g2; omega)
        rw [if_pos hne]
        conv => whnf
        subst hne
        exact fin0 rfl trivial
end Go.PV
namespace Go.PV
open Go
/-! the page's readers keep their list; their place never falls -/
namespace Rf
theorem args_l : ∀ (f : Nat) (q : Rf), (args f q).2.l = q.l ∧ q.i ≤ (args f q).2.i
  | 0, q => ⟨rfl, Nat.le_refl _⟩
  | f + 1, q => by
    unfold args
    split
    · have h := term_l q.step
      have h2 := args_l f q.step.term.2
      have e1 : q.step.l = q.l ∧ q.step.i = q.i + 1 := ⟨rfl, rfl⟩
      dsimp only
      exact ⟨by rw [h2.1, h.1, e1.1], by omega⟩
    · exact ⟨rfl, Nat.le_refl _⟩
theorem atom_l (q : Rf) : q.atom.2.l = q.l ∧ q.i ≤ q.atom.2.i := by
  unfold atom
  have h := name_l q
  split
  · dsimp only
    have h1 := term_l q.name.2.step
    have h2 := args_l q.name.2.l.length q.name.2.step.term.2
    have h3 := take_l (args q.name.2.l.length q.name.2.step.term.2).2 5 [41]
    have e1 : q.name.2.step.l = q.name.2.l ∧ q.name.2.step.i = q.name.2.i + 1 := ⟨rfl, rfl⟩
    exact ⟨by rw [h3.1, h2.1, h1.1, e1.1, h.1], by omega⟩
  · exact h
end Rf
end Go.PV
namespace Go.PV
open Go
/-! the page's reader of formulas -/
namespace Rf
def wordsF : List (Int × Bs) → Rf → Int
  | [], _ => 0
  | (k, s) :: L, q => if q.is 1 s then k else wordsF L q
def pclo : List Frm → List Nod → Rf → List Frm × List Nod × Rf
  | [], l, q => ([], l, q)
  | (k, a) :: st, l, q => if k = 0 then ((k, a) :: st, l, q) else
      if armsN k = 2 then (if (q.take 5 [41]).ok then pclo st (l ++ [⟨k, zeroA, a, (l.length : Int) - 1⟩]) (q.take 5 [41]) else ((k, a) :: st, l, q.take 5 [41]))
      else pclo st (l ++ [⟨k, zeroA, (l.length : Int) - 1, 0⟩]) q
def forF : Nat → Rf → List Frm → List Nod → List Nod × Rf
  | 0, q, _, _ => ([], q)
  | f + 1, q, st, l => if q.ok then
      if wordsF onesL q = 0 then
        if q.is 5 [40] then forF f q.step ((0, 0) :: st) l else
        if q.atom.2.ok then
          if (pclo st (l ++ [⟨1, q.atom.1, 0, 0⟩]) q.atom.2).2.2.ok then
            match (pclo st (l ++ [⟨1, q.atom.1, 0, 0⟩]) q.atom.2).1 with
            | [] => ((pclo st (l ++ [⟨1, q.atom.1, 0, 0⟩]) q.atom.2).2.1, (pclo st (l ++ [⟨1, q.atom.1, 0, 0⟩]) q.atom.2).2.2)
            | _ :: st' => if wordsF twosL (pclo st (l ++ [⟨1, q.atom.1, 0, 0⟩]) q.atom.2).2.2 = 0 then ([], (pclo st (l ++ [⟨1, q.atom.1, 0, 0⟩]) q.atom.2).2.2.fail) else forF f (pclo st (l ++ [⟨1, q.atom.1, 0, 0⟩]) q.atom.2).2.2.step ((wordsF twosL (pclo st (l ++ [⟨1, q.atom.1, 0, 0⟩]) q.atom.2).2.2, ((pclo st (l ++ [⟨1, q.atom.1, 0, 0⟩]) q.atom.2).2.1.length : Int) - 1) :: st') (pclo st (l ++ [⟨1, q.atom.1, 0, 0⟩]) q.atom.2).2.1
          else ([], (pclo st (l ++ [⟨1, q.atom.1, 0, 0⟩]) q.atom.2).2.2)
        else ([], q.atom.2)
      else forF f q.step ((wordsF onesL q, 0) :: st) l
    else ([], q)
def formulaF (q : Rf) : List Nod × Rf := forF (q.l.length + 1) q [] []
end Rf
def BadL (l : List Nod) : Prop := ∃ o ∈ l, o.k = 1 ∧ atomOk o.a = false
theorem BadL.app {l : List Nod} (h : BadL l) (m : List Nod) : BadL (l ++ m) := by
  obtain ⟨o, h1, h2⟩ := h
  exact ⟨o, List.mem_append_left _ h1, h2⟩
theorem BadL.no {l : List Nod} (h : BadL l) : fmlOk l = false := by
  obtain ⟨o, ho, h1, h2⟩ := h
  cases hk : fmlOk l with
  | false => rfl
  | true =>
    obtain ⟨_, _, b, hb⟩ := fmlOk_froms hk
    obtain ⟨j, hj, rfl⟩ := List.mem_iff_getElem.1 ho
    obtain ⟨p, q1, q2, q3, q4⟩ := froms_at hb hj
    have ha : armsN l[j].k = 0 := by rw [h1]; rfl
    rcases nod_cases q4 q1 with ⟨_, _, _, e, _⟩ | ⟨e, _⟩ | ⟨e, _⟩
    · rw [h2] at e; cases e
    · rw [ha] at e; cases e
    · rw [ha] at e; cases e
/-- the two lists of nodes -/
def NRel (w : Bool) (r : Rd) (l m : List Nod) : Prop := l.length = m.length ∧ ((m = l ∧ r.wrong = w) ∨ (BadL m ∧ (r.wrong = true ∨ BadL l)))
theorem NRel.app {w : Bool} {r r' : Rd} {l m : List Nod} (h : NRel w r l m) (o : Nod) (hw : r'.wrong = r.wrong) : NRel w r' (l ++ [o]) (m ++ [o]) := by
  refine ⟨by simp [h.1], ?_⟩
  rcases h.2 with ⟨h1, h2⟩ | ⟨h1, h2⟩
  · exact .inl ⟨by rw [h1], by rw [hw, h2]⟩
  · refine .inr ⟨h1.app _, ?_⟩
    rcases h2 with h2 | h2
    · exact .inl (by rw [hw, h2])
    · exact .inr (h2.app _)
theorem NRel.same {w : Bool} {r r' : Rd} {l m : List Nod} (h : NRel w r l m) (hw : r'.wrong = r.wrong) : NRel w r' l m := ⟨h.1, by rw [hw]; exact h.2⟩
theorem words_sim : ∀ (L : List (Int × Bs)) {r : Rd} {q : Rf}, (∀ p ∈ L, tokOk ⟨1, p.2, (0, 0)⟩ = true) → Sim r q → q.ok = true → (Rd.wordsR L r).1 = Rf.wordsF L q ∧ (Rf.wordsF L q ≠ 0 → (Rd.wordsR L r).2 = r.step ∧ q.i < q.l.length) ∧ ((∀ p ∈ L, p.1 ≠ 0) → Rf.wordsF L q = 0 → (Rd.wordsR L r).2 = r)
  | [], r, q, _, _, _ => ⟨rfl, fun h => absurd rfl h, fun _ _ => rfl⟩
  | (k, s) :: L, r, q, hL, h, ho => by
    unfold Rd.wordsR Rf.wordsF
    have hs := h.see (hL (k, s) List.mem_cons_self)
    rw [hs, ho, Bool.true_and]
    cases hc : q.is 1 s with
    | true => exact ⟨rfl, fun _ => ⟨rfl, Rf.is_up hc⟩, fun h0 h1 => absurd h1 (h0 (k, s) List.mem_cons_self)⟩
    | false =>
      have := words_sim L (fun p hp => hL p (List.mem_cons_of_mem _ hp)) h ho
      exact ⟨this.1, this.2.1, fun h0 h1 => this.2.2 (fun p hp => h0 p (List.mem_cons_of_mem _ hp)) h1⟩
theorem ones_tok : ∀ p ∈ onesL, tokOk ⟨1, p.2, (0, 0)⟩ = true := by decide +kernel
theorem twos_tok : ∀ p ∈ twosL, tokOk ⟨1, p.2, (0, 0)⟩ = true := by decide +kernel
def frOk (p : Frm) : Prop := p.1 = 0 ∨ armsN p.1 = 1 ∨ armsN p.1 = 2
theorem ones_fr {q : Rf} : armsN (Rf.wordsF onesL q) = 1 ∨ Rf.wordsF onesL q = 0 := by
  unfold onesL
  simp only [Rf.wordsF]
  repeat' split
  all_goals first | exact .inl rfl | exact .inr rfl
theorem twos_fr {q : Rf} : armsN (Rf.wordsF twosL q) = 2 ∨ Rf.wordsF twosL q = 0 := by
  unfold twosL
  simp only [Rf.wordsF]
  repeat' split
  all_goals first | exact .inl rfl | exact .inr rfl
theorem clo_sim (w : Bool) : ∀ (st : List Frm) (l m : List Nod) {r : Rd} {q : Rf}, (∀ p ∈ st, frOk p) → Sim r q → q.ok = true → NRel w r l m →
    ((Rf.pclo st m q).2.2.ok = false ∧ (Rd.clo st l r).1 = true ∧ Sim (Rd.clo st l r).2.2.2 (Rf.pclo st m q).2.2) ∨
    ((Rf.pclo st m q).2.2.ok = true ∧ (Rf.pclo st m q).1 = [] ∧ (Rd.clo st l r).1 = true ∧ Sim (Rd.clo st l r).2.2.2 (Rf.pclo st m q).2.2 ∧ NRel w (Rd.clo st l r).2.2.2 (Rd.clo st l r).2.2.1 (Rf.pclo st m q).2.1 ∧ q.i ≤ (Rf.pclo st m q).2.2.i) ∨
    (∃ (a : Int) (st' : List Frm), (Rf.pclo st m q).2.2.ok = true ∧ (Rf.pclo st m q).1 = (0, a) :: st' ∧ (∀ p ∈ st', frOk p) ∧ q.i ≤ (Rf.pclo st m q).2.2.i ∧ (Rf.pclo st m q).2.2.l = q.l ∧
      ((Rf.wordsF twosL (Rf.pclo st m q).2.2 = 0 ∧ (Rd.clo st l r).1 = true ∧ Sim (Rd.clo st l r).2.2.2 (Rf.pclo st m q).2.2.fail) ∨
       (Rf.wordsF twosL (Rf.pclo st m q).2.2 ≠ 0 ∧ (Rd.clo st l r).1 = false ∧ (Rd.clo st l r).2.1 = (Rf.wordsF twosL (Rf.pclo st m q).2.2, ((Rf.pclo st m q).2.1.length : Int) - 1) :: st' ∧ Sim (Rd.clo st l r).2.2.2 (Rf.pclo st m q).2.2.step ∧ (Rf.pclo st m q).2.2.i < (Rf.pclo st m q).2.2.l.length ∧ NRel w (Rd.clo st l r).2.2.2 (Rd.clo st l r).2.2.1 (Rf.pclo st m q).2.1)))
  | [], l, m, r, q, _, h, ho, hn => by
    refine .inr (.inl ⟨ho, rfl, rfl, h, hn, Nat.le_refl _⟩)
  | (k, a) :: st, l, m, r, q, hf, h, ho, hn => by
    have hk := hf (k, a) List.mem_cons_self
    have hf' : ∀ p ∈ st, frOk p := fun p hp => hf p (List.mem_cons_of_mem _ hp)
    have hop : r.isOpen = true := by rw [h.isOpen, ho]
    unfold Rd.clo Rf.pclo
    rw [if_pos hop]
    by_cases h0 : k = 0
    · subst h0
      rw [if_pos (show (0 : Int) = 0 from rfl), if_neg (show ¬ armsN 0 = 1 by decide), if_neg (show ¬ armsN 0 = 2 by decide)]
      obtain ⟨w1, w2, w3⟩ := words_sim twosL twos_tok h ho
      refine .inr (.inr ⟨a, st, ho, rfl, hf', Nat.le_refl _, rfl, ?_⟩)
      rw [w1]
      by_cases hw : Rf.wordsF twosL q = 0
      · rw [if_pos hw]
        exact .inl ⟨hw, rfl, h.fail⟩
      · rw [if_neg hw, (w2 hw).1]
        exact .inr ⟨hw, rfl, by rw [hn.1], h.step, (w2 hw).2, hn.same rfl⟩
    · rw [if_neg h0]
      rcases hk with hk | hk | hk
      · exact absurd hk h0
      · have hk : armsN k = 1 := hk
        rw [if_pos hk, if_neg (by omega : ¬ armsN k = 2)]
        have := hn.app (r' := r) ⟨k, zeroA, (l.length : Int) - 1, 0⟩ rfl
        have e : ((l.length : Nat) : Int) = m.length := by rw [hn.1]
        rw [e] at this ⊢
        exact clo_sim w st _ _ hf' h ho this
      · have hk : armsN k = 2 := hk
        rw [if_neg (by omega : ¬ armsN k = 1), if_pos hk, if_pos hk]
        have hw := h.want (k := 5) (s := [41]) (by decide +kernel)
        have e : ((l.length : Nat) : Int) = m.length := by rw [hn.1]
        rw [e]
        cases hq : (q.take 5 [41]).ok with
        | false =>
          rw [if_neg (by simp)]
          left
          refine ⟨hq, ?_⟩
          have hsh : (r.want 5 [41]).isOpen = false := by rw [hw.isOpen, hq]
          cases st with
          | nil => exact ⟨rfl, hw⟩
          | cons p st =>
            obtain ⟨k', a'⟩ := p
            unfold Rd.clo
            rw [if_neg (by rw [hsh]; simp)]
            exact ⟨rfl, hw⟩
        | true =>
          rw [if_pos rfl]
          have := hn.app (r' := r.want 5 [41]) ⟨k, zeroA, a, (m.length : Int) - 1⟩ (Rd.want_w _ _ _)
          have hi : q.i ≤ (q.take 5 [41]).i := by rw [(Rf.take_ok2 hq).2]; exact Nat.le_succ _
          have hl : (q.take 5 [41]).l = q.l := by rw [(Rf.take_ok2 hq).2]; rfl
          rcases clo_sim w st _ _ hf' hw hq this with g | ⟨g1, g2, g3, g4, g5, g6⟩ | ⟨a1, s1, g1, g2, g3, g4, g5, g6⟩
          · exact .inl g
          · exact .inr (.inl ⟨g1, g2, g3, g4, g5, by omega⟩)
          · exact .inr (.inr ⟨a1, s1, g1, g2, g3, by omega, by rw [g5, hl], g6⟩)
theorem for_sim (w : Bool) : ∀ (g fb f : Nat) (st : List Frm) (l m : List Nod) {r : Rd} {q : Rf}, (∀ p ∈ st, frOk p) → Sim r q → q.ok = true → q.i ≤ q.l.length → q.l.length < g + q.i → q.l.length < fb + q.i → q.l.length ≤ f + q.i → NRel w r l m →
    Sim (Rd.startG fb f r st l).2.2 (Rf.forF g q st m).2 ∧ ((Rf.forF g q st m).2.ok = true → NRel w (Rd.startG fb f r st l).2.2 (Rd.startG fb f r st l).2.1 (Rf.forF g q st m).1)
  | 0, fb, f, st, l, m, r, q, _, _, _, h1, h2, _, _, _ => by omega
  | g + 1, 0, f, st, l, m, r, q, _, _, _, h1, _, h2, _, _ => by omega
  | g + 1, fb + 1, f, st, l, m, r, q, hf, h, ho, h1, h2, h3, h4, hn => by
    obtain ⟨w1, w2, w3⟩ := words_sim onesL ones_tok h ho
    have hs40 := h.see (k := 5) (s := [40]) (by decide +kernel)
    rw [ho, Bool.true_and] at hs40
    unfold Rf.forF
    rw [if_pos ho]
    by_cases hw : Rf.wordsF onesL q = 0
    · rw [if_pos hw]
      cases hc : q.is 5 [40] with
      | true =>
        rw [if_pos rfl]
        have e : Rd.startG (fb + 1) f r st l = Rd.startG fb f r.step ((0, 0) :: st) l := by
          unfold Rd.startG
          rw [show Rd.beg (fb + 1) r st = Rd.beg fb r.step ((0, 0) :: st) from by rw [Rd.beg, w1, if_pos hw, hs40, hc, if_pos rfl]]
        rw [e]
        have hup := Rf.is_up hc
        exact for_sim w g fb f ((0, 0) :: st) l m (fun p hp => by
          rcases List.mem_cons.1 hp with rfl | hp
          · exact .inl rfl
          · exact hf p hp) h.step ho hup (show q.l.length < g + (q.i + 1) by omega) (show q.l.length < fb + (q.i + 1) by omega) (show q.l.length ≤ f + (q.i + 1) by omega) (hn.same rfl)
      | false =>
        rw [if_neg (by simp)]
        have e : Rd.startG (fb + 1) f r st l = Rd.contG f st (l ++ [⟨1, r.atom.1, 0, 0⟩]) r.atom.2 := by
          unfold Rd.startG
          rw [show Rd.beg (fb + 1) r st = (st, r) from by rw [Rd.beg, w1, if_pos hw, hs40, hc, if_neg (by simp)]]
        rw [e]
        obtain ⟨a1, a2⟩ := atom_sim h
        have hal := (Rf.atom_l q).1
        cases hk : q.atom.2.ok with
        | false =>
          rw [if_neg (by simp)]
          refine ⟨?_, fun x => by rw [hk] at x; cases x⟩
          have hsh : r.atom.2.isOpen = false := by rw [a1.isOpen, hk]
          unfold Rd.contG
          have hc : Rd.clo st (l ++ [⟨1, r.atom.1, 0, 0⟩]) r.atom.2 = (true, st, l ++ [⟨1, r.atom.1, 0, 0⟩], r.atom.2) := by
            cases st with
            | nil => rfl
            | cons p st =>
              obtain ⟨k', a'⟩ := p
              unfold Rd.clo
              rw [if_neg (by rw [hsh]; simp)]
          rw [hc, if_pos rfl]
          exact a1
        | true =>
          rw [if_pos rfl]
          obtain ⟨a3, a4⟩ := a2 hk
          have hn2 : NRel w r.atom.2 (l ++ [⟨1, r.atom.1, 0, 0⟩]) (m ++ [⟨1, q.atom.1, 0, 0⟩]) := by
            rcases a4 with ⟨b1, b2⟩ | ⟨b1, b2⟩
            · exact ⟨by simp [hn.1], .inr ⟨⟨_, List.mem_append_right _ List.mem_cons_self, rfl, b1⟩, .inl b2⟩⟩
            · rw [b1]; exact hn.app _ b2
          have hcs := clo_sim w st _ _ hf a1 hk hn2
          unfold Rd.contG
          generalize Rf.pclo st (m ++ [⟨1, q.atom.1, 0, 0⟩]) q.atom.2 = P at *
          generalize Rd.clo st (l ++ [⟨1, r.atom.1, 0, 0⟩]) r.atom.2 = C at *
          rcases hcs with ⟨c1, c2, c3⟩ | ⟨c1, c2, c3, c4, c5, c6⟩ | ⟨a, st', c1, c2, c3, c4, c5, c6⟩
          · rw [c1, c2, if_pos rfl, if_neg (by simp)]
            exact ⟨c3, fun x => by rw [c1] at x; cases x⟩
          · rw [c1, c2, c3, if_pos rfl, if_pos rfl]
            exact ⟨c4, fun _ => c5⟩
          · rw [c1, c2, if_pos rfl]
            dsimp only
            rcases c6 with ⟨d1, d2, d3⟩ | ⟨d1, d2, d3, d4, d5, d6⟩
            · rw [if_pos d1, d2, if_pos rfl]
              exact ⟨d3, fun x => by cases x⟩
            · rw [if_neg d1, d2, if_neg (by simp)]
              rw [c5, hal] at d5
              have hfpos : ∃ f', f = f' + 1 := ⟨f - 1, by omega⟩
              obtain ⟨f', rfl⟩ := hfpos
              have hop : C.2.2.2.isOpen = true := by rw [d4.isOpen]; exact c1
              rw [Rd.forG_start hop, d3]
              have hl : C.2.2.2.l.length = q.l.length := by rw [d4.l]; show P.2.2.l.length = _; rw [c5, hal]
              have hl2 : P.2.2.step.l.length = q.l.length := by show P.2.2.l.length = _; rw [c5, hal]
              have hi2 : P.2.2.step.i = P.2.2.i + 1 := rfl
              refine for_sim w g _ f' _ _ _ (fun p hp => ?_) d4 c1 (by omega) (by omega) (by omega) (by omega) d6
              rcases List.mem_cons.1 hp with rfl | hp
              · exact (twos_fr (q := P.2.2)).elim (fun x => .inr (.inr x)) (fun x => absurd x d1)
              · exact c3 p hp
    · rw [if_neg hw]
      obtain ⟨w4, w5⟩ := w2 hw
      have e : Rd.startG (fb + 1) f r st l = Rd.startG fb f r.step ((Rf.wordsF onesL q, 0) :: st) l := by
        unfold Rd.startG
        rw [show Rd.beg (fb + 1) r st = Rd.beg fb r.step ((Rf.wordsF onesL q, 0) :: st) from by rw [Rd.beg, w1, if_neg hw, w4]]
      rw [e]
      exact for_sim w g fb f _ l m (fun p hp => by
          rcases List.mem_cons.1 hp with rfl | hp
          · exact (ones_fr (q := q)).elim (fun x => .inr (.inl x)) (fun x => absurd x hw)
          · exact hf p hp) h.step ho w5 (show q.l.length < g + (q.i + 1) by omega) (show q.l.length < fb + (q.i + 1) by omega) (show q.l.length ≤ f + (q.i + 1) by omega) (hn.same rfl)
theorem fml_sim {r : Rd} {q : Rf} (h : Sim r q) (ho : q.ok = true) (hi : q.i ≤ q.l.length) : Sim r.formula.2.2 q.formulaF.2 ∧ (q.formulaF.2.ok = true → NRel r.wrong r.formula.2.2 r.formula.2.1 q.formulaF.1) := by
  unfold Rd.formula Rf.formulaF
  rw [Rd.forG_start (by rw [h.isOpen, ho]), h.l]
  exact for_sim r.wrong _ _ _ [] [] [] (fun p hp => by cases hp) h ho hi (by omega) (by omega) (by omega) ⟨rfl, .inl ⟨rfl, rfl⟩⟩
/-- the page's ReadFormula -/
def refReadF (l : List Tok) (i : Nat) : List Nod × Nat × Int :=
  let x := (⟨l, i, true⟩ : Rf).formulaF
  if x.2.ok then (if fmlOk x.1 then (x.1, x.2.i, 0) else ([], i, 7)) else ([], x.2.i, 7)
theorem readF_ref {l : List Tok} {i : Nat} (hi : i ≤ l.length) : readF l i = refReadF l i := by
  have h : Sim (rd0 l i) ⟨l, i, true⟩ := ⟨rfl, rfl, rfl, rfl⟩
  have hv : Iv (rd0 l i) := ⟨hi, fun h => by cases h⟩
  have hv2 := hv.formula
  obtain ⟨h1, h2⟩ := fml_sim h rfl hi
  have hw : (rd0 l i).wrong = false := rfl
  rw [hw] at h2
  unfold readF refReadF Rd.endE Rd.endI
  dsimp only
  generalize (rd0 l i).formula = x at *
  generalize (⟨l, i, true⟩ : Rf).formulaF = y at *
  have hxi := h1.i
  rw [h1.over, h1.bad]
  cases ho : y.2.ok with
  | false =>
    have : min x.2.2.i x.2.2.l.length = y.2.i := by rw [Nat.min_eq_left hv2.le, hxi]
    simp [this]
  | true =>
    obtain ⟨_, c⟩ := h2 ho
    rcases c with ⟨c1, c2⟩ | ⟨c1, c2⟩
    · rw [c2, c1]
      simp [hxi]
    · rw [c1.no]
      cases hwr : x.2.2.wrong with
      | true => simp
      | false =>
        rw [hwr] at c2
        simp only [Bool.false_eq_true, false_or] at c2
        simp [c2.no]
end Go.PV
namespace Go.PV
open Go
/-! the page's reader of patterns -/
namespace Rf
def trgF (q : Rf) : Atm × Rf := if q.ok then q.atom else (zeroA, q)
def bodF (q : Rf) : List Nod × Rf := if q.ok then q.formulaF else ([], q)
def patF (q : Rf) : Pat × Rf :=
  let n := (q.take 1 patW).name
  let t := (n.2.take 5 [58]).trgF
  let f := (t.2.take 5 [61, 62]).bodF
  (⟨n.1, t.1, f.1⟩, f.2.take 5 [46])
end Rf
theorem Rd.formula_shut {r : Rd} (h : r.isOpen = false) : r.formula = ([], [], r) := by
  unfold Rd.formula Rd.forG
  rw [if_neg (by rw [h]; simp)]
theorem trg_sim {r : Rd} {q : Rf} (h : Sim r q) : Sim r.atom.2 q.trgF.2 ∧ (q.trgF.2.ok = true → q.ok = true ∧
    ((atomOk q.trgF.1 = false ∧ r.atom.2.wrong = true) ∨ (q.trgF.1 = r.atom.1 ∧ r.atom.2.wrong = r.wrong))) := by
  unfold Rf.trgF
  cases ho : q.ok with
  | false =>
    rw [if_neg (by simp), Rd.atom_shut (by rw [h.isOpen, ho])]
    exact ⟨h, fun x => by rw [ho] at x; cases x⟩
  | true =>
    rw [if_pos rfl]
    obtain ⟨a1, a2⟩ := atom_sim h
    exact ⟨a1, fun x => ⟨rfl, (a2 x).2⟩⟩
theorem bod_sim {r : Rd} {q : Rf} (h : Sim r q) (hi : q.ok = true → q.i ≤ q.l.length) : Sim r.formula.2.2 q.bodF.2 ∧ (q.bodF.2.ok = true → q.ok = true ∧ NRel r.wrong r.formula.2.2 r.formula.2.1 q.bodF.1) := by
  unfold Rf.bodF
  cases ho : q.ok with
  | false =>
    rw [if_neg (by simp), Rd.formula_shut (by rw [h.isOpen, ho])]
    exact ⟨h, fun x => by rw [ho] at x; cases x⟩
  | true =>
    rw [if_pos rfl]
    obtain ⟨a1, a2⟩ := fml_sim h ho (hi ho)
    exact ⟨a1, fun x => ⟨rfl, a2 x⟩⟩
theorem patOk_t {p : Pat} (h : atomOk p.t = false) : patOk p = false := by unfold patOk; rw [h]; simp
theorem patOk_l {p : Pat} (h : fmlOk p.l = false) : patOk p = false := by unfold patOk; rw [h]; simp
theorem pat_sim {r : Rd} {q : Rf} (h : Sim r q) (hv : Iv r) : Sim (patR r).2 q.patF.2 ∧ (q.patF.2.ok = true →
    ((patOk q.patF.1 = false ∧ ((patR r).2.wrong = true ∨ patOk (patR r).1 = false)) ∨ (q.patF.1 = (patR r).1 ∧ (patR r).2.wrong = r.wrong))) := by
  unfold patR Rf.patF
  dsimp only
  have v1 := (hv.want 1 patW).name
  obtain ⟨a1, a2⟩ := (h.want (k := 1) (s := patW) (by decide +kernel)).name
  have w1 : (r.want 1 patW).name.2.wrong = r.wrong := by rw [Rd.name_w, Rd.want_w]
  rw [a1]
  generalize (r.want 1 patW).name.2 = r1 at *
  generalize (q.take 1 patW).name = q1 at *
  have v2 := v1.want 5 [58]
  have b1 := a2.want (k := 5) (s := [58]) (by decide +kernel)
  have w2 : (r1.want 5 [58]).wrong = r.wrong := by rw [Rd.want_w, w1]
  obtain ⟨c1, c2⟩ := trg_sim b1
  have v3 := v2.atom
  rw [w2] at c2
  generalize (r1.want 5 [58]).atom = t at *
  generalize (q1.2.take 5 [58]).trgF = t' at *
  have d1 := c1.want (k := 5) (s := [61, 62]) (by decide +kernel)
  have v4 := v3.want 5 [61, 62]
  have w4 : (t.2.want 5 [61, 62]).wrong = t.2.wrong := Rd.want_w _ _ _
  obtain ⟨e1, e2⟩ := bod_sim d1 (fun _ => by rw [← d1.i, ← d1.l]; exact v4.le)
  rw [w4] at e2
  refine ⟨e1.want (by decide +kernel), fun hk => ?_⟩
  obtain ⟨f1, f2⟩ := e2 (Rf.take_ok2 hk).1
  obtain ⟨g1, g2⟩ := c2 (Rf.take_ok2 f1).1
  rw [Rd.want_w]
  generalize (t.2.want 5 [61, 62]).formula = F at *
  generalize (t'.2.take 5 [61, 62]).bodF = F' at *
  rcases g2 with ⟨g2, g3⟩ | ⟨g2, g3⟩
  · refine .inl ⟨patOk_t g2, ?_⟩
    rcases f2.2 with ⟨_, f3⟩ | ⟨_, f3⟩
    · exact .inl (by rw [f3, g3])
    · exact f3.elim .inl fun x => .inr (patOk_l x.no)
  · rcases f2.2 with ⟨f3, f4⟩ | ⟨f3, f4⟩
    · exact .inr ⟨by rw [g2, f3], by rw [f4, g3]⟩
    · exact .inl ⟨patOk_l f3.no, f4.elim .inl fun x => .inr (patOk_l x.no)⟩
/-- the page's ReadPattern -/
def refReadP (l : List Tok) (i : Nat) : Pat × Nat × Int :=
  let x := (⟨l, i, true⟩ : Rf).patF
  if x.2.ok then (if patOk x.1 then (x.1, x.2.i, 0) else (zeroP, i, 7)) else (zeroP, x.2.i, 7)
theorem readP_ref {l : List Tok} {i : Nat} (hi : i ≤ l.length) : readP l i = refReadP l i := by
  have h : Sim (rd0 l i) ⟨l, i, true⟩ := ⟨rfl, rfl, rfl, rfl⟩
  have hv : Iv (rd0 l i) := ⟨hi, fun h => by cases h⟩
  have hv2 := hv.pat
  obtain ⟨h1, h2⟩ := pat_sim h hv
  have hw : (rd0 l i).wrong = false := rfl
  rw [hw] at h2
  unfold readP refReadP Rd.endE Rd.endI
  dsimp only
  generalize patR (rd0 l i) = x at *
  generalize (⟨l, i, true⟩ : Rf).patF = y at *
  have hxi := h1.i
  rw [h1.over, h1.bad]
  cases ho : y.2.ok with
  | false =>
    have : min x.2.i x.2.l.length = y.2.i := by rw [Nat.min_eq_left hv2.le, hxi]
    simp [this]
  | true =>
    rcases h2 ho with ⟨c1, c2⟩ | ⟨c1, c2⟩
    · rw [c1]
      cases hwr : x.2.wrong with
      | true => simp
      | false =>
        rw [hwr] at c2
        simp only [Bool.false_eq_true, false_or] at c2
        simp [c2]
    · rw [c2, ← c1]
      simp [hxi]
end Go.PV
namespace Go.PV
open Go
/-! nil cells of an array's rows, read as data -/
theorem Sh.row {σ : Nat → Nat → Value → Prop} {n j m : Nat} {ys zs : List (List V)} {z : List V} {c : Value} (hz : z[j]? = some .nil) (h : Sh σ (.sl n (ys ++ z :: zs)) c) : Sh σ (.sl n (ys ++ z.set j (.sl m []) :: zs)) c := by
  generalize hq : ys ++ z :: zs = q at h
  cases h with
  | sl0 => simp at hq
  | sl _ _ b off cap c h0 hl hc hs hh =>
    subst hq
    have hiz : (ys ++ z :: zs)[ys.length]? = some z := by simp
    have hg : ∀ (i : Nat) (x : List V), (ys ++ z.set j (.sl m []) :: zs)[i]? = some x → (i = ys.length ∧ x = z.set j (.sl m [])) ∨ (ys ++ z :: zs)[i]? = some x := by
      intro i x hi
      rw [List.getElem?_append] at hi
      split at hi
      · rename_i hlt
        right; rw [List.getElem?_append_left hlt]; exact hi
      · rename_i hge
        cases hq : i - ys.length with
        | zero =>
          rw [hq] at hi
          simp only [List.getElem?_cons_zero, Option.some.injEq] at hi
          exact .inl ⟨by omega, hi.symm⟩
        | succ q =>
          rw [hq] at hi
          simp only [List.getElem?_cons_succ] at hi
          right; rw [List.getElem?_append_right (by omega), hq]; simpa using hi
    have hp : ∀ (i : Nat) (x : List V) (k : Nat) (p : V), (ys ++ z.set j (.sl m []) :: zs)[i]? = some x → x[k]? = some p → ∃ x' p', (ys ++ z :: zs)[i]? = some x' ∧ x'[k]? = some p' ∧ (p' = p ∨ (p' = .nil ∧ p = .sl m [])) := by
      intro i x k p hi hk
      rcases hg i x hi with ⟨e1, e2⟩ | e
      · subst e1; subst e2
        rw [List.getElem?_set] at hk
        split at hk
        · rename_i e
          subst e
          split at hk
          · cases hk; exact ⟨z, .nil, hiz, hz, .inr ⟨rfl, rfl⟩⟩
          · cases hk
        · exact ⟨z, p, hiz, hk, .inl rfl⟩
      · exact ⟨x, p, e, hk, .inl rfl⟩
    have hlen : (ys ++ z :: zs).length = (ys ++ z.set j (.sl m []) :: zs).length := by simp
    rw [hlen] at hc ⊢
    refine .sl _ _ b off cap c h0 (fun i x hi => ?_) hc (fun i x k p hi hk => ?_) (fun i x k p hi hk => ?_)
    · rcases hg i x hi with ⟨e1, e2⟩ | e
      · subst e1; subst e2; rw [List.length_set]; exact hl _ z hiz
      · exact hl i x e
    · obtain ⟨x', p', q1, q2, _⟩ := hp i x k p hi hk
      exact hs i x' k p' q1 q2
    · obtain ⟨x', p', q1, q2, q3⟩ := hp i x k p hi hk
      have := hh i x' k p' q1 q2
      rcases q3 with q3 | ⟨q3, q4⟩
      · rw [← q3]; exact this
      · subst q3; subst q4
        generalize c i k = v at this ⊢
        cases this
        exact .sl0 _ _ _
end Go.PV
namespace Go.PV
open Go
/-! arrays of numbers -/
def arrI (n : Nat) (f : Nat → Int) : List (List V) := (List.range n).map fun j => [.int .i64 (f j)]
theorem arrI_len (n : Nat) (f : Nat → Int) : (arrI n f).length = n := by simp [arrI]
theorem arrI_get {n k : Nat} (f : Nat → Int) (h : k < n) : (arrI n f)[k]? = some [.int .i64 (f k)] := by
  simp [arrI, h]
def updI (f : Nat → Int) (k : Nat) (v : Int) : Nat → Int := fun j => if j = k then v else f j
theorem updI_same (f : Nat → Int) (k : Nat) (v : Int) : updI f k v k = v := by simp [updI]
theorem updI_other {f : Nat → Int} {k j : Nat} {v : Int} (h : j ≠ k) : updI f k v j = f j := by simp [updI, h]
theorem arrI_set (n k : Nat) (f : Nat → Int) (v : Int) : (arrI n f).set k [.int .i64 v] = arrI n (updI f k v) := by
  apply List.ext_getElem
  · simp [arrI]
  · intro j h1 h2
    rw [List.getElem_set]
    simp only [arrI, List.getElem_map, List.getElem_range, updI]
    split
    · rename_i e; rw [if_pos e.symm]
    · rename_i e; rw [if_neg (Ne.symm e)]
theorem arrI_rep (n : Nat) : List.replicate n [V.int .i64 0] = arrI n fun _ => 0 := by
  apply List.ext_getElem
  · simp [arrI]
  · intro j h1 h2
    simp [arrI]
theorem fmlOk_iff {l : List Nod} {b : List (Nat × Nat)} {p : Nat × Nat} (h1 : 1 ≤ l.length) (h2 : l.length ≤ 40) (hb : fromsS l = some b) (hp : b[l.length - 1]? = some p) (hd : p.2 ≤ 12) : fmlOk l = decide ((p.1 : Int) = 0) := by
  have hl := (fromsGo_len hb).1
  simp only [List.length_nil, Nat.zero_add] at hl
  have hg : b.getLast? = some p := by rw [List.getLast?_eq_getElem?, hl]; exact hp
  unfold fmlOk
  rw [hb]
  dsimp only
  rw [hg, decide_eq_true ⟨h1, h2⟩, Bool.true_and]
  rw [Bool.eq_iff_iff]
  simp only [decide_eq_true_eq]
  omega
theorem fmlOk_deep {l : List Nod} {b : List (Nat × Nat)} (hb : fromsS l = some b) {p : Nat × Nat} (hp : p ∈ b) (hd : 12 < p.2) : fmlOk l = false := by
  cases hk : fmlOk l with
  | false => rfl
  | true =>
    obtain ⟨T, t1, rfl, t3, t4⟩ := fml_tree hk
    have e : fromsS (T.nodes 0) = some (T.acc 0) := FT.froms t1 []
    rw [e] at hb
    cases hb
    have := (T.acc_deep 0 p hp).1
    omega
theorem fmlOk_none {l : List Nod} (hb : fromsS l = none) : fmlOk l = false := by
  unfold fmlOk; rw [hb]; simp
theorem fmlOk_len {l : List Nod} (h : ¬ (1 ≤ l.length ∧ l.length ≤ 40)) : fmlOk l = false := by
  unfold fmlOk; rw [decide_eq_false h]; rfl
theorem nod1_none {a : List (Nat × Nat)} {x : Nod} (ha : armsN x.k = 1) (h : x.x ≠ (a.length : Int) - 1 ∨ x.y ≠ 0 ∨ x.a ≠ zeroA ∨ a = []) : nodS a x = none := by
  unfold nodS
  rw [if_neg (by omega), if_pos ha]
  split
  · rename_i q hq
    rw [if_neg]
    rintro ⟨h1, h2, h3⟩
    rcases h with h | h | h | h
    · exact h h1
    · exact h h2
    · exact h h3
    · subst h; cases hq
  · rfl
theorem nod1_some {a : List (Nat × Nat)} {x : Nod} {q : Nat × Nat} (ha : armsN x.k = 1) (hq : a.getLast? = some q) (h1 : x.x = (a.length : Int) - 1) (h2 : x.y = 0) (h3 : x.a = zeroA) : nodS a x = some (q.1, q.2 + 1) := by
  unfold nodS
  rw [if_neg (by omega), if_pos ha, hq]
  dsimp only
  rw [if_pos ⟨h1, h2, h3⟩]
theorem nod2_none {a : List (Nat × Nat)} {x : Nod} (ha : armsN x.k = 2) (h : x.a ≠ zeroA ∨ a = [] ∨ x.y ≠ (a.length : Int) - 1 ∨ ∃ q, a.getLast? = some q ∧ (q.1 = 0 ∨ x.x ≠ (q.1 : Int) - 1)) : nodS a x = none := by
  unfold nodS
  rw [if_neg (by omega), if_neg (by omega), if_pos ha]
  split
  · rename_i q hq
    rw [if_neg]
    rintro ⟨h1, h2, h3, h4⟩
    rcases h with h | h | h | ⟨p, h, h5⟩
    · exact h h4
    · subst h; cases hq
    · exact h h1
    · rw [hq] at h
      cases h
      rcases h5 with h5 | h5
      · omega
      · exact h5 h3
  · rfl
theorem nod2_some {a : List (Nat × Nat)} {x : Nod} {q u : Nat × Nat} (ha : armsN x.k = 2) (hq : a.getLast? = some q) (hu : a[q.1 - 1]? = some u) (h1 : x.y = (a.length : Int) - 1) (h2 : 1 ≤ q.1) (h3 : x.x = (q.1 : Int) - 1) (h4 : x.a = zeroA) : nodS a x = some (u.1, max u.2 q.2 + 1) := by
  unfold nodS
  rw [if_neg (by omega), if_neg (by omega), if_pos ha, hq]
  dsimp only
  rw [if_pos ⟨h1, h2, h3, h4⟩, hu]
end Go.PV
namespace Go.PV
open Go Go.Proofs
set_option maxRecDepth 100000
theorem qone_good (k : Int) : Good Tryz.prog 78 [.int .i64 k] [] [.bool (decide (armsN k = 1))] [] := by
  refine good_of hP Tryz.func78 (by kernel_rfl) (lv := [0, 2]) (js := []) ⟨rfl, rfl, rfl, rfl, rfl, rfl, _, rfl, ?_⟩
  rcases arms_cases k with ⟨h1, h2⟩ | ⟨h1, h2⟩ | ⟨h1, h2⟩ | ⟨h1, h2⟩
  · subst h2
    conv => whnf
    exact fin0 rfl trivial
  · rw [h1]
    rcases h2 with h2 | h2 | h2 | h2 <;> subst h2
    · conv => whnf
      exact fin0 rfl trivial
    · conv => whnf
      exact fin0 rfl trivial
    · conv => whnf
      exact fin0 rfl trivial
    · conv => whnf
      exact fin0 rfl trivial
  · rw [h1]
    rcases h2 with h2 | h2 | h2 <;> subst h2
    · conv => whnf
      exact fin0 rfl trivial
    · conv => whnf
      exact fin0 rfl trivial
    · conv => whnf
      exact fin0 rfl trivial
  · rw [h1]
    conv => whnf
    refine branch_of (fun q => ?_) (fun q => ?_)
    · exact absurd (of_decide_eq_true q) (by omega)
    conv => whnf
    refine branch_of (fun q => ?_) (fun q => ?_)
    · exact absurd (of_decide_eq_true q) (by omega)
    conv => whnf
    refine branch_of (fun q => ?_) (fun q => ?_)
    · exact absurd (of_decide_eq_true q) (by omega)
    conv => whnf
    exact fin0 (by rw [decide_eq_false (show ¬ k = 7 by omega)]; rfl) trivial
theorem qtwo_good (k : Int) : Good Tryz.prog 79 [.int .i64 k] [] [.bool (decide (armsN k = 2))] [] := by
  refine good_of hP Tryz.func79 (by kernel_rfl) (lv := [0, 2]) (js := []) ⟨rfl, rfl, rfl, rfl, rfl, rfl, _, rfl, ?_⟩
  rcases arms_cases k with ⟨h1, h2⟩ | ⟨h1, h2⟩ | ⟨h1, h2⟩ | ⟨h1, h2⟩
  · subst h2
    conv => whnf
    exact fin0 rfl trivial
  · rw [h1]
    rcases h2 with h2 | h2 | h2 | h2 <;> subst h2
    · conv => whnf
      exact fin0 rfl trivial
    · conv => whnf
      exact fin0 rfl trivial
    · conv => whnf
      exact fin0 rfl trivial
    · conv => whnf
      exact fin0 rfl trivial
  · rw [h1]
    rcases h2 with h2 | h2 | h2 <;> subst h2
    · conv => whnf
      exact fin0 rfl trivial
    · conv => whnf
      exact fin0 rfl trivial
    · conv => whnf
      exact fin0 rfl trivial
  · rw [h1]
    conv => whnf
    refine branch_of (fun q => ?_) (fun q => ?_)
    · exact absurd (of_decide_eq_true q) (by omega)
    conv => whnf
    refine branch_of (fun q => ?_) (fun q => ?_)
    · exact absurd (of_decide_eq_true q) (by omega)
    conv => whnf
    exact fin0 (by rw [decide_eq_false (show ¬ k = 8 by omega)]; rfl) trivial
theorem qword_good (k : Nat) (hk : k ≤ 8) : Good Tryz.prog 101 [.int .i64 k] [] [.str (wordT k)] [] := by
  refine good_of hP Tryz.func101 (by kernel_rfl) (lv := [0, 2]) (js := []) ⟨rfl, rfl, rfl, rfl, rfl, rfl, _, rfl, ?_⟩
  have hc : k = 0 ∨ k = 1 ∨ k = 2 ∨ k = 3 ∨ k = 4 ∨ k = 5 ∨ k = 6 ∨ k = 7 ∨ k = 8 := by omega
  rcases hc with rfl | rfl | rfl | rfl | rfl | rfl | rfl | rfl | rfl
  all_goals
    conv => whnf
    refine ⟨⟨⟩, ⟨by decide, by decide⟩, ?_⟩
    conv => whnf
    refine ⟨_, rfl, ?_⟩
    conv => whnf
    exact fin0 rfl trivial
theorem qfml_good (l : List Nod) (hl : l.length ≤ 1000000) (hb : ∀ o ∈ l, nodB o) : Good Tryz.prog 26 [.sl 5 (nodV l)] [] [.bool (fmlOk l)] [] := by
  refine good_of hP Tryz.func26 (by kernel_rfl) (lv := [0, 2, 3, 4, 5, 6, 7, 11, 21, 45, 62, 63, 84, 102, 137, 165]) (js := [100002]) ⟨rfl, rfl, rfl, rfl, rfl, rfl, _, rfl, ?_⟩
  have hll : (nodV l).length = l.length := List.length_map _
  generalize hU : fromsS l = U
  conv => whnf
  refine call0 (in9_good ((nodV l).length : Int) 1 40) ?_
  rw [hll]
  by_cases hc : 1 ≤ l.length ∧ l.length ≤ 40
  case neg =>
    rw [fmlOk_len hc, decide_eq_false (by omega)]
    conv => whnf
    exact fin0 rfl trivial
  rw [decide_eq_true (show (1 : Int) ≤ (l.length : Nat) ∧ ((l.length : Nat) : Int) ≤ 40 by omega)]
  conv => whnf
  refine ⟨l.length, ⟨by rw [hll], by rw [hll], by show l.length * 1 ≤ _; omega⟩, ?_⟩
  conv => whnf
  refine ⟨l.length, ⟨by rw [hll], by rw [hll], by show l.length * 1 ≤ _; omega⟩, ?_⟩
  conv => whnf
  refine ⟨by kernel_rfl, ?_⟩
  conv => whnf
  refine loop_of hP [0, 2, 3, 4, 5, 6, 7, 11, 21, 45, 62, 63, 84, 102, 137, 165] [100002] [0, 3, 4, 5] [78, 81] [] (fun m st => ∃ (k : Nat) (a : List (Nat × Nat)) (f g : Nat → Int), m = l.length - k ∧ k ≤ l.length ∧ a.length = k ∧ AccB a ∧ fromsGo a (l.drop k) = U ∧ (∀ p ∈ a, p.2 ≤ 12) ∧ (∀ (j : Nat) (p : Nat × Nat), a[j]? = some p → f j = p.1 ∧ g j = p.2) ∧
    st = ⟨[(0, .sl 5 (nodV l)), (3, .own 78 0), (4, .own 81 0), (5, .int .i64 k)], [(78, .arr 0 false 1 (arrI l.length f)), (81, .arr 0 false 1 (arrI l.length g))]⟩) l.length ?_ ?_
  · conv => whnf
    exact ⟨0, [], fun _ => 0, fun _ => 0, rfl, Nat.zero_le _, rfl, accB_nil, hU, fun p hp => (by cases hp), fun j p hj => (by simp at hj), by rw [← arrI_rep]; rfl⟩
  · rintro m st ⟨k, a, f, g, rfl, hk, hak, hB, hb3, h12, hfg, rfl⟩
    conv => whnf
    refine branch_of (fun h => ?_) (fun h => ?_)
    · have h := of_decide_eq_true h
      rw [hll] at h
      have hk' : k < l.length := by omega
      rw [fromsGo_step hk'] at hb3
      have hbk := hb _ (List.getElem_mem hk')
      have hrow := idxM (f := Nod.c) hk' rfl
      generalize hx : l[k] = x at *
      have hbr : decide (IntKind.i64.wrap ((x.a.n.length : Int) + ((trmV x.a.a).length : Nat)) = 0) = decide (x.a = zeroA) := by
        obtain ⟨b1, b2, b3⟩ := hbk
        rw [List.length_map, wr (by omega) (by omega), decide_eq_decide]
        constructor
        · intro h
          have h1 : x.a.n = [] := List.length_eq_zero_iff.1 (by omega)
          have h2 : x.a.a = [] := List.length_eq_zero_iff.1 (by omega)
          generalize x.a = y at *
          obtain ⟨n, a⟩ := y
          dsimp only at h1 h2
          subst h1; subst h2
          rfl
        · intro h; rw [h]; rfl
      conv => whnf
      refine ⟨_, hrow, ?_⟩
      conv => whnf
      rw [hbr]
      refine ⟨⟨⟩, ⟨by omega, by rw [arrI_len]; omega⟩, ?_⟩
      conv => whnf
      refine ⟨_, arrI_get f hk', ?_⟩
      conv => whnf
      refine ⟨⟨⟩, ⟨by omega, by rw [arrI_len]; omega⟩, ?_⟩
      conv => whnf
      refine ⟨_, arrI_get g hk', ?_⟩
      have hnone : nodS a x = none → fmlOk l = false := fun hp => by rw [hp] at hb3; exact fmlOk_none (hU.trans hb3.symm)
      have hfin : ∀ (p : Nat × Nat) (F G : Nat → Int), (∀ j, j ≠ k → F j = f j ∧ G j = g j) → F k = p.1 → G k = p.2 → ∀ (j : Nat) (q : Nat × Nat), (a ++ [p])[j]? = some q → F j = q.1 ∧ G j = q.2 := by
        intro p F G h1 h2 h3 j q hj
        by_cases e : j < k
        · rw [List.getElem?_append_left (by omega)] at hj
          obtain ⟨e1, e2⟩ := h1 j (by omega)
          rw [e1, e2]
          exact hfg j q hj
        · rw [List.getElem?_append_right (by omega), hak] at hj
          cases hq : j - k with
          | zero =>
            have : j = k := by omega
            subst this
            rw [hq] at hj
            simp only [List.getElem?_cons_zero, Option.some.injEq] at hj
            subst hj
            exact ⟨h2, h3⟩
          | succ n => rw [hq] at hj; simp at hj
      have hlast : ∀ {q : Nat × Nat}, a[k - 1]? = some q → 1 ≤ k → a.getLast? = some q := fun h _ => by rw [List.getLast?_eq_getElem?, hak]; exact h
      conv => whnf
      refine seq_of hP [0, 2, 3, 4, 5, 6, 7, 11, 21, 45, 62, 63, 84, 102, 137, 165] [100002] [0, 3, 4, 5] [78, 81] [] (fun st => ∃ (p : Nat × Nat) (F G : Nat → Int), nodS a x = some p ∧ (∀ (j : Nat) (q : Nat × Nat), (a ++ [p])[j]? = some q → F j = q.1 ∧ G j = q.2) ∧
        st = ⟨[(0, .sl 5 (nodV l)), (3, .own 78 0), (4, .own 81 0), (5, .int .i64 k)], [(78, .arr 0 false 1 (arrI l.length F)), (81, .arr 0 false 1 (arrI l.length G))]⟩) ?_ ?_
      · have hs1 : (arrI l.length f).set (Int.toNat (k : Int)) [V.int .i64 (k : Int)] = arrI l.length (updI f k k) := arrI_set _ _ _ _
        have hs2 : (arrI l.length g).set (Int.toNat (k : Int)) [V.int .i64 1] = arrI l.length (updI g k 1) := arrI_set _ _ _ _
        rw [hs1, hs2]
        conv => whnf
        refine branch_of (fun h1 => ?_) (fun h1 => ?_)
        · have h1 := of_decide_eq_true h1
          have ha : armsN x.k = 0 := by rw [h1]; rfl
          conv => whnf
          refine call0 (refAtom_good x.a ⟨hbk.1, hbk.2.2⟩) ?_
          have hno : nodS a x = if x.x = 0 ∧ x.y = 0 ∧ atomOk x.a = true then some (a.length, 1) else none := by unfold nodS; rw [if_pos ha]
          cases hq : atomOk x.a with
          | false =>
            have hF := hnone (by rw [hno, if_neg (fun q => by rw [hq] at q; cases q.2.2)])
            rw [hF]
            conv => whnf
            exact fin0 rfl trivial
          | true =>
          conv => whnf
          refine branch_of (fun h2 => ?_) (fun h2 => ?_)
          · have hF := hnone (by rw [hno, if_neg (fun q => by simp [q.1] at h2)])
            rw [hF]
            conv => whnf
            exact fin0 rfl trivial
          conv => whnf
          refine branch_of (fun h3 => ?_) (fun h3 => ?_)
          · have hF := hnone (by rw [hno, if_neg (fun q => by simp [q.2.1] at h3)])
            rw [hF]
            conv => whnf
            exact fin0 rfl trivial
          conv => whnf
          refine ⟨(k, 1), updI f k k, updI g k 1, ?_, ?_, ?_⟩
          · rw [hno, if_pos ⟨by simpa using h2, by simpa using h3, hq⟩, hak]
          · exact hfin _ _ _ (fun j hj => ⟨updI_other hj, updI_other hj⟩) (updI_same _ _ _) (updI_same _ _ _)
          · rfl
        · have h1 := of_decide_eq_false h1
          have ha0 : armsN x.k ≠ 0 := by rcases arms_cases x.k with ⟨q, q2⟩ | ⟨q, _⟩ | ⟨q, _⟩ | ⟨q, _⟩ <;> first | exact absurd q2 h1 | omega
          conv => whnf
          refine call0 (qone_good x.k) ?_
          by_cases ha : armsN x.k = 1
          · rw [decide_eq_true ha]
            have hw1 : IntKind.i64.wrap ((k : Int) - 1) = (k : Int) - 1 := wr (by omega) (by omega)
            conv => whnf
            refine branch_of (fun h2 => ?_) (fun h2 => ?_)
            · have hF := hnone (nod1_none ha (.inr (.inr (.inl (by simpa using h2)))))
              rw [hF]
              conv => whnf
              exact fin0 rfl trivial
            conv => whnf
            refine branch_of (fun h3 => ?_) (fun h3 => ?_)
            · have h3 := of_decide_eq_true h3
              have hF := hnone (nod1_none ha (.inr (.inr (.inr (List.length_eq_zero_iff.1 (show a.length = 0 by omega))))))
              rw [hF]
              conv => whnf
              exact fin0 rfl trivial
            have h3 := of_decide_eq_false h3
            conv => whnf
            refine branch_of (fun h4 => ?_) (fun h4 => ?_)
            · rw [hw1] at h4
              have hF := hnone (nod1_none ha (.inl (by rw [hak]; simpa using h4)))
              rw [hF]
              conv => whnf
              exact fin0 rfl trivial
            conv => whnf
            refine branch_of (fun h5 => ?_) (fun h5 => ?_)
            · have hF := hnone (nod1_none ha (.inr (.inl (by simpa using h5))))
              rw [hF]
              conv => whnf
              exact fin0 rfl trivial
            rw [hw1] at h4
            have h2 : x.a = zeroA := by simpa using h2
            have h4 : x.x = (k : Int) - 1 := by simpa using h4
            have h5 : x.y = 0 := by simpa using h5
            obtain ⟨q, hq⟩ : ∃ q, a[k - 1]? = some q := ⟨_, List.getElem?_eq_getElem (by omega)⟩
            have hfq := hfg _ _ hq
            have hq12 := h12 q (List.mem_of_getElem? hq)
            have hxn : x.x.toNat = k - 1 := by omega
            have hg1 : (arrI l.length (updI f k k))[x.x.toNat]? = some [.int .i64 (q.1 : Int)] := by rw [hxn, arrI_get _ (by omega), updI_other (by omega), hfq.1]
            have hg2 : (arrI l.length (updI g k 1))[x.x.toNat]? = some [.int .i64 (q.2 : Int)] := by rw [hxn, arrI_get _ (by omega), updI_other (by omega), hfq.2]
            have e1 := arrI_set l.length k (updI f k k) q.1
            have e2 := arrI_set l.length k (updI g k 1) (q.2 + 1 : Nat)
            conv => whnf
            refine ⟨⟨⟩, ⟨by omega, by rw [arrI_len]; omega⟩, ?_⟩
            conv => whnf
            refine ⟨_, hg1, ?_⟩
            conv => whnf
            refine ⟨⟨⟩, ⟨by omega, by rw [arrI_len]; omega⟩, ?_⟩
            conv => whnf
            refine ⟨_, hg2, ?_⟩
            conv => whnf
            refine ⟨⟨⟩, ⟨by omega, by rw [arrI_len]; omega⟩, ?_⟩
            conv => whnf
            refine ⟨_, arrI_get _ hk', ?_⟩
            conv => whnf
            refine ⟨⟨⟩, ⟨by omega, by rw [arrI_len]; omega⟩, ?_⟩
            conv => whnf
            refine ⟨_, arrI_get _ hk', ?_⟩
            conv => whnf
            refine ⟨by kernel_rfl, ?_⟩
            conv => whnf
            refine ⟨(q.1, q.2 + 1), updI (updI f k k) k q.1, updI (updI g k 1) k (q.2 + 1 : Nat), ?_, ?_, ?_⟩
            · exact nod1_some ha (hlast hq (by omega)) (by rw [hak]; exact h4) h5 h2
            · exact hfin _ _ _ (fun j hj => ⟨by rw [updI_other hj, updI_other hj], by rw [updI_other hj, updI_other hj]⟩) (updI_same _ _ _) (updI_same _ _ _)
            · rw [← e1, ← e2, wr (by omega) (by omega)]; rfl
          · rw [decide_eq_false ha]
            conv => whnf
            refine call0 (qtwo_good x.k) ?_
            by_cases ha2 : armsN x.k = 2
            · rw [decide_eq_true ha2]
              have hw1 : IntKind.i64.wrap ((k : Int) - 1) = (k : Int) - 1 := wr (by omega) (by omega)
              conv => whnf
              refine branch_of (fun h2 => ?_) (fun h2 => ?_)
              · have hF := hnone (nod2_none ha2 (.inl (by simpa using h2)))
                rw [hF]
                conv => whnf
                refine ⟨by kernel_rfl, ?_⟩
                conv => whnf
                exact fin0 rfl trivial
              conv => whnf
              refine branch_of (fun h3 => ?_) (fun h3 => ?_)
              · have h3 := of_decide_eq_true h3
                have hF := hnone (nod2_none ha2 (.inr (.inl (List.length_eq_zero_iff.1 (show a.length = 0 by omega)))))
                rw [hF]
                conv => whnf
                refine ⟨by kernel_rfl, ?_⟩
                conv => whnf
                exact fin0 rfl trivial
              have h3 := of_decide_eq_false h3
              conv => whnf
              refine branch_of (fun h4 => ?_) (fun h4 => ?_)
              · rw [hw1] at h4
                have hF := hnone (nod2_none ha2 (.inr (.inr (.inl (by rw [hak]; simpa using h4)))))
                rw [hF]
                conv => whnf
                refine ⟨by kernel_rfl, ?_⟩
                conv => whnf
                exact fin0 rfl trivial
              rw [hw1] at h4
              have h2 : x.a = zeroA := by simpa using h2
              have h4 : x.y = (k : Int) - 1 := by simpa using h4
              obtain ⟨q, hq⟩ : ∃ q, a[k - 1]? = some q := ⟨_, List.getElem?_eq_getElem (by omega)⟩
              have hfq := hfg _ _ hq
              have hq12 := h12 q (List.mem_of_getElem? hq)
              have hql := (hB _ _ hq).1
              have hyn : x.y.toNat = k - 1 := by omega
              have hg1 : (arrI l.length (updI f k k))[x.y.toNat]? = some [.int .i64 (q.1 : Int)] := by rw [hyn, arrI_get _ (by omega), updI_other (by omega), hfq.1]
              have hg2 : (arrI l.length (updI g k 1))[x.y.toNat]? = some [.int .i64 (q.2 : Int)] := by rw [hyn, arrI_get _ (by omega), updI_other (by omega), hfq.2]
              have hw2 : IntKind.i64.wrap ((q.1 : Int) - 1) = (q.1 : Int) - 1 := wr (by omega) (by omega)
              conv => whnf
              refine ⟨⟨⟩, ⟨by omega, by rw [arrI_len]; omega⟩, ?_⟩
              conv => whnf
              refine ⟨_, hg1, ?_⟩
              conv => whnf
              refine branch_of (fun h5 => ?_) (fun h5 => ?_)
              · have h5 := of_decide_eq_true h5
                have hF := hnone (nod2_none ha2 (.inr (.inr (.inr ⟨q, hlast hq (by omega), .inl (by omega)⟩))))
                rw [hF]
                conv => whnf
                refine ⟨by kernel_rfl, ?_⟩
                conv => whnf
                exact fin0 rfl trivial
              have h5 := of_decide_eq_false h5
              conv => whnf
              refine ⟨⟨⟩, ⟨by omega, by rw [arrI_len]; omega⟩, ?_⟩
              conv => whnf
              refine ⟨_, hg1, ?_⟩
              conv => whnf
              refine ⟨by kernel_rfl, ?_⟩
              conv => whnf
              refine branch_of (fun h6 => ?_) (fun h6 => ?_)
              · rw [hw2] at h6
                have hF := hnone (nod2_none ha2 (.inr (.inr (.inr ⟨q, hlast hq (by omega), .inr (by simpa using h6)⟩))))
                rw [hF]
                conv => whnf
                exact fin0 rfl trivial
              rw [hw2] at h6
              have h6 : x.x = (q.1 : Int) - 1 := by simpa using h6
              obtain ⟨u, hu⟩ : ∃ u, a[q.1 - 1]? = some u := ⟨_, List.getElem?_eq_getElem (by omega)⟩
              have hfu := hfg _ _ hu
              have hu12 := h12 u (List.mem_of_getElem? hu)
              have hxn : x.x.toNat = q.1 - 1 := by omega
              have hg3 : (arrI l.length (updI f k k))[x.x.toNat]? = some [.int .i64 (u.1 : Int)] := by rw [hxn, arrI_get _ (by omega), updI_other (by omega), hfu.1]
              have hg4 : (arrI l.length (updI g k 1))[x.x.toNat]? = some [.int .i64 (u.2 : Int)] := by rw [hxn, arrI_get _ (by omega), updI_other (by omega), hfu.2]
              have e1 := arrI_set l.length k (updI f k k) u.1
              have e2 := arrI_set l.length k (updI g k 1) (max u.2 q.2 + 1 : Nat)
              have hmx : IntKind.i64.wrap ((if (u.2 : Int) < (q.2 : Int) then (q.2 : Int) else (u.2 : Int)) + 1) = ((max u.2 q.2 + 1 : Nat) : Int) := by
                have : (if (u.2 : Int) < (q.2 : Int) then (q.2 : Int) else (u.2 : Int)) = ((max u.2 q.2 : Nat) : Int) := by split <;> omega
                rw [this, wr (by omega) (by omega)]; omega
              conv => whnf
              refine ⟨⟨⟩, ⟨by omega, by rw [arrI_len]; omega⟩, ?_⟩
              conv => whnf
              refine ⟨_, hg3, ?_⟩
              conv => whnf
              refine ⟨⟨⟩, ⟨by omega, by rw [arrI_len]; omega⟩, ?_⟩
              conv => whnf
              refine ⟨_, hg4, ?_⟩
              conv => whnf
              refine ⟨⟨⟩, ⟨by omega, by rw [arrI_len]; omega⟩, ?_⟩
              conv => whnf
              refine ⟨_, hg2, ?_⟩
              conv => whnf
              refine ⟨⟨⟩, ⟨by omega, by rw [arrI_len]; omega⟩, ?_⟩
              conv => whnf
              refine ⟨_, arrI_get _ hk', ?_⟩
              conv => whnf
              refine ⟨⟨⟩, ⟨by omega, by rw [arrI_len]; omega⟩, ?_⟩
              conv => whnf
              refine ⟨_, arrI_get _ hk', ?_⟩
              conv => whnf
              refine ⟨by kernel_rfl, ?_⟩
              conv => whnf
              refine ⟨(u.1, max u.2 q.2 + 1), updI (updI f k k) k u.1, updI (updI g k 1) k (max u.2 q.2 + 1 : Nat), ?_, ?_, ?_⟩
              · exact nod2_some ha2 (hlast hq (by omega)) hu (by rw [hak]; exact h4) (by omega) h6 h2
              · exact hfin _ _ _ (fun j hj => ⟨by rw [updI_other hj, updI_other hj], by rw [updI_other hj, updI_other hj]⟩) (updI_same _ _ _) (updI_same _ _ _)
              · rw [← e1, ← e2, ← hmx]; rfl
            · have hF := hnone (by unfold nodS; rw [if_neg (by omega), if_neg ha, if_neg ha2])
              rw [hF, decide_eq_false ha2]
              conv => whnf
              exact fin0 rfl trivial
      · rintro st ⟨p, F, G, hp, hFG, rfl⟩
        have hkp := hFG k p (by rw [List.getElem?_append_right (by omega), hak]; simp)
        rw [hp] at hb3
        dsimp only at hb3
        conv => whnf
        refine ⟨⟨⟩, ⟨by omega, by rw [arrI_len]; omega⟩, ?_⟩
        conv => whnf
        refine ⟨_, arrI_get G hk', ?_⟩
        have hkp2 : G (Int.toNat (k : Int)) = p.2 := hkp.2
        conv => whnf
        rw [hkp2]
        refine branch_of (fun h2 => ?_) (fun h2 => ?_)
        · have h2 := of_decide_eq_true h2
          have hF : fmlOk l = false := by
            cases hu : U with
            | none => exact fmlOk_none (hU.trans hu)
            | some b =>
              rw [hu] at hb3
              obtain ⟨_, t, ht⟩ := fromsGo_len hb3
              exact fmlOk_deep (hU.trans hu) (p := p) (by rw [ht]; simp) (by omega)
          rw [hF]
          conv => whnf
          exact fin0 rfl trivial
        · have h2 := of_decide_eq_false h2
          conv => whnf
          refine ⟨l.length - (k + 1), by omega, k + 1, a ++ [p], F, G, rfl, by omega, by simp [hak], accB_snoc hB hp, hb3, fun q hq => ?_, hFG, ?_⟩
          · rcases List.mem_append.1 hq with hq | hq
            · exact h12 q hq
            · simp at hq; subst hq; omega
          · rw [wr (by omega) (by omega)]; rfl
    · have h := of_decide_eq_false h
      rw [hll] at h
      have hkl : k = l.length := by omega
      subst hkl
      rw [List.drop_length] at hb3
      have hU2 : fromsS l = some a := hU.trans hb3.symm
      obtain ⟨q, hq⟩ : ∃ q, a[l.length - 1]? = some q := ⟨_, List.getElem?_eq_getElem (by omega)⟩
      have hfq := hfg _ _ hq
      have hq12 := h12 q (List.mem_of_getElem? hq)
      have hw1 : IntKind.i64.wrap (((nodV l).length : Int) - 1) = ((l.length - 1 : Nat) : Int) := by rw [hll, wr (by omega) (by omega)]; omega
      have hg1 : (arrI l.length f)[(IntKind.i64.wrap (((nodV l).length : Int) - 1)).toNat]? = some [.int .i64 (q.1 : Int)] := by rw [hw1, Int.toNat_natCast, arrI_get _ (by omega), hfq.1]
      rw [fmlOk_iff hc.1 hc.2 hU2 hq hq12]
      conv => whnf
      refine ⟨⟨⟩, ⟨by rw [hw1]; omega, by rw [hw1, arrI_len]; omega⟩, ?_⟩
      conv => whnf
      refine ⟨_, hg1, ?_⟩
      conv => whnf
      exact fin0 rfl trivial
end Go.PV
