/- Part of the proof. -/
import Derived.Test.YtfdopmapaaagoaaGreatDoorM4
import Derived.ChangeArms
import Derived.DataElems
import Derived.DataReads
import Derived.SizedLaws
import Derived.ChangeSlices
import Derived.WideShapes
import Derived.ChangeShapes
import Derived.JoinedOf
import Derived.SevenTiedAt
import Derived.Test.YtfdopmapaaagoaaGreatDoorRows
import Derived.LaidMore
import Derived.Stop.LaidErr
import Derived.Lib.LaidTab
import Derived.MakeChecks
import Derived.LaidLaws
set_option linter.unusedVariables false
set_option linter.unusedSimpArgs false
namespace Go.PV
open Go Go.Proofs
set_option maxRecDepth 100000
theorem nodV_snoc (l : List Nod) (x : Nod) : nodV (l ++ [x]) = nodV l ++ [x.c] := List.map_append
theorem frmV_cons (f : Frm) (st : List Frm) : frmV (f :: st) = frmV st ++ [[.int .i64 f.1, .int .i64 f.2]] := by
  show ((f :: st).reverse.map fun f => [V.int .i64 f.1, .int .i64 f.2]) = _
  rw [List.reverse_cons, List.map_append]; rfl
theorem frmV_len (st : List Frm) : (frmV st).length = st.length := by rw [List.length_map, List.length_reverse]
theorem arrN_snoc (l : List Nod) (x : Nod) : arrN (l ++ [x]) = .arr 0 false 5 (nodV l ++ [x.c]) := congrArg (Ob.arr 0 false 5) (nodV_snoc l x)
theorem arrF_cons (f : Frm) (st : List Frm) : arrF (f :: st) = .arr 0 false 2 (frmV st ++ [[.int .i64 f.1, .int .i64 f.2]]) := congrArg (Ob.arr 0 false 2) (frmV_cons f st)
theorem put_good (r : Rd) (l : List Nod) (st : List Frm) (x : Nod) (hl : l.length ≤ 10000000) : Good Tryz.prog 151 [.ptr 0 0 0, .agg x.c] [rdsO, r.ob, arrN l, arrF st] [] [rdsO, r.ob, arrN (l ++ [x]), arrF st] := by
  have hll : (nodV l).length = l.length := List.length_map _
  refine good_of hP Tryz.func151 (by kernel_rfl) (lv := [0, 1, 3]) (js := []) ⟨rfl, rfl, rfl, rfl, rfl, rfl, _, rfl, ?_⟩
  conv => whnf
  refine ⟨⟨⟩, by dsimp only; rw [hll]; simp only [List.length_cons, List.length_nil]; omega, ?_⟩
  conv => whnf
  refine ⟨by kernel_rfl, ?_⟩
  conv => whnf
  rw [arrN_snoc]
  refine ⟨[], rfl, ?_⟩
  conv => whnf
  refine ⟨⟨⟩, rfl, ?_⟩
  conv => whnf
  refine ⟨⟨⟩, rfl, ?_⟩
  conv => whnf
  refine ⟨⟨⟩, rfl, ?_⟩
  conv => whnf
  exact ⟨⟨⟩, rfl, trivial⟩
theorem begins_good (r : Rd) (l : List Nod) (st : List Frm) (hl : r.l.length ≤ 1000000) (hst : st.length ≤ r.i) : Good Tryz.prog 150 [.ptr 0 0 0] [rdsO, r.ob, arrN l, arrF st] [] [rdsO, (Rd.beg (r.l.length + 1) r st).2.ob, arrN l, arrF (Rd.beg (r.l.length + 1) r st).1] := by
  refine good_of hP Tryz.func150 (by kernel_rfl) (lv := [0, 2, 15]) (js := []) ⟨rfl, rfl, rfl, rfl, rfl, rfl, _, rfl, ?_⟩
  generalize hU : Rd.beg (r.l.length + 1) r st = U
  conv => whnf
  refine loop_of hP [0, 2, 15] [] [0] [0, 1, 2, 3] [] (fun m s => ∃ (f : Nat) (q : Rd) (t : List Frm), f = m ∧ q.l = r.l ∧ (f = 0 → r.l.length ≤ q.i) ∧ r.l.length < f + q.i + 1 ∧ t.length ≤ q.i ∧ Rd.beg f q t = U ∧
    s = ⟨[(0, .ptr 0 0 0)], [(0, rdsO), (1, q.ob), (2, arrN l), (3, arrF t)]⟩) (r.l.length + 1) ?_ ?_
  · conv => whnf
    exact ⟨r.l.length + 1, r, st, rfl, rfl, (fun h => by cases h), by omega, hst, hU, rfl⟩
  · rintro m s ⟨f, q, t, rfl, hq, hf0, hf, ht, hU, rfl⟩
    have hql : q.l.length ≤ 1000000 := by rw [hq]; exact hl
    conv => whnf
    refine call0 (ones_good) ?_
    conv => whnf
    refine callN [(0, 0), (1, 0), (2, 0), (3, 0), (1280, 0)] (words1_good q l t hql) ?_
    conv => whnf
    refine ⟨⟨⟩, rfl, ?_⟩
    conv => whnf
    refine ⟨⟨⟩, rfl, ?_⟩
    conv => whnf
    refine ⟨⟨⟩, rfl, ?_⟩
    conv => whnf
    refine ⟨⟨⟩, rfl, ?_⟩
    conv => whnf
    refine ⟨⟨⟩, rfl, ?_⟩
    have h0 := @Rd.wordsR_0 onesL q Rd.ones_ne
    have hne := @Rd.wordsR_ne onesL q
    generalize hw : Rd.wordsR onesL q = w at *
    obtain ⟨k, q2⟩ := w
    dsimp only at h0 hne
    conv => whnf
    refine branch_of (fun hk => ?_) (fun hk => ?_)
    · have hk : k = 0 := of_decide_eq_true hk
      subst hk
      have := h0 rfl
      subst this
      conv => whnf
      refine callN [(1, 0)] (rsign_good' q2 [40] hql) ?_ 
      conv => whnf
      refine ⟨⟨⟩, rfl, ?_⟩
      rw [word_eq]
      cases hs : q2.see 5 [40] with
      | false =>
        have hU2 : Rd.beg f q2 t = (t, q2) := by
          cases f with
          | zero => rfl
          | succ f => rw [Rd.beg, hw, if_pos rfl, hs, if_neg (by simp)]
        rw [hU2] at hU
        subst hU
        conv => whnf
        refine ⟨[], rfl, ?_⟩
        conv => whnf
        refine ⟨⟨⟩, rfl, ?_⟩
        conv => whnf
        refine ⟨⟨⟩, rfl, ?_⟩
        conv => whnf
        refine ⟨⟨⟩, rfl, ?_⟩
        conv => whnf
        exact ⟨⟨⟩, rfl, trivial⟩
      | true =>
        have hlt := cur_lt' hs
        obtain ⟨f, rfl⟩ : ∃ g, f = g + 1 := ⟨f - 1, by have := fun e => hf0 e; rw [hq] at hlt; omega⟩
        rw [Rd.beg, hw, if_pos rfl, hs, if_pos rfl] at hU
        have hlt2 : q2.i < r.l.length := by rw [hq] at hlt; exact hlt
        conv => whnf
        refine ⟨⟨⟩, by dsimp only; rw [frmV_len]; simp only [List.length_cons, List.length_nil]; omega, ?_⟩
        conv => whnf
        refine ⟨f, by omega, f, q2.step, (0, 0) :: t, rfl, hq, (fun _ => by show r.l.length ≤ q2.i + 1; omega), by show r.l.length < f + (q2.i + 1) + 1; omega, by show _ + 1 ≤ q2.i + 1; omega, hU, ?_⟩
        rw [arrF_cons]
        rfl
    · have hk2 : ¬ k = 0 := of_decide_eq_false hk
      obtain ⟨e, ho, hlt, _⟩ := hne hk2
      subst e
      have hlt2 : q.i < r.l.length := by rw [hq] at hlt; exact hlt
      obtain ⟨f, rfl⟩ : ∃ g, f = g + 1 := ⟨f - 1, by have := fun e => hf0 e; omega⟩
      rw [Rd.beg, hw, if_neg hk2] at hU
      conv => whnf
      refine ⟨⟨⟩, by dsimp only; rw [frmV_len]; simp only [List.length_cons, List.length_nil]; omega, ?_⟩
      conv => whnf
      refine ⟨f, by omega, f, q.step, (k, 0) :: t, rfl, hq, (fun _ => by show r.l.length ≤ q.i + 1; omega), by show r.l.length < f + (q.i + 1) + 1; omega, by show _ + 1 ≤ q.i + 1; omega, hU, ?_⟩
      rw [arrF_cons]
theorem closes_good (r : Rd) (l : List Nod) (st : List Frm) (hl : r.l.length ≤ 1000000) (hb : l.length + st.length ≤ 3000000) : Good Tryz.prog 152 [.ptr 0 0 0] [rdsO, r.ob, arrN l, arrF st] [.bool (Rd.clo st l r).1] [rdsO, (Rd.clo st l r).2.2.2.ob, arrN (Rd.clo st l r).2.2.1, arrF (Rd.clo st l r).2.1] := by
  refine good_of hP Tryz.func152 (by kernel_rfl) (lv := [0, 2, 3, 4, 5, 6, 19, 41, 46, 62, 79]) (js := []) ⟨rfl, rfl, rfl, rfl, rfl, rfl, _, rfl, ?_⟩
  generalize hU : Rd.clo st l r = U
  conv => whnf
  refine loop_of hP [0, 2, 3, 4, 5, 6, 19, 41, 46, 62, 79] [] [0] [0, 1, 2, 3] [] (fun m s => ∃ (t : List Frm) (n : List Nod) (q : Rd), m = t.length ∧ q.l = r.l ∧ n.length + t.length = l.length + st.length ∧ Rd.clo t n q = U ∧
    s = ⟨[(0, .ptr 0 0 0)], [(0, rdsO), (1, q.ob), (2, arrN n), (3, arrF t)]⟩) st.length ?_ ?_
  · conv => whnf
    exact ⟨st, l, r, rfl, rfl, rfl, hU, rfl⟩
  · rintro m s ⟨t, n, q, rfl, hq, hlen, hU, rfl⟩
    have hql : q.l.length ≤ 1000000 := by rw [hq]; exact hl
    cases t with
    | nil =>
      rw [Rd.clo] at hU
      subst hU
      conv => whnf
      refine ⟨[], rfl, ?_⟩
      conv => whnf
      refine ⟨⟨⟩, rfl, ?_⟩
      conv => whnf
      refine ⟨⟨⟩, rfl, ?_⟩
      conv => whnf
      refine ⟨⟨⟩, rfl, ?_⟩
      conv => whnf
      exact ⟨⟨⟩, rfl, trivial⟩
    | cons x t =>
      obtain ⟨k, a⟩ := x
      have h0 : decide (0 < ((frmV ((k, a) :: t)).length : Int)) = true := by rw [decide_eq_true_iff, frmV_len, List.length_cons]; omega
      have hw : IntKind.i64.wrap (((frmV ((k, a) :: t)).length : Int) - 1) = (t.length : Nat) := by
        rw [List.length_cons] at hlen
        rw [frmV_len, List.length_cons, wr (by omega) (by omega)]; omega
      have hnl : (nodV n).length = n.length := List.length_map _
      rw [List.length_cons] at hlen
      have hw2 : IntKind.i64.wrap (((nodV n).length : Int) - 1) = (n.length : Int) - 1 := by rw [hnl, wr (by omega) (by omega)]
      have hrow : (frmV ((k, a) :: t))[((t.length : Nat) : Int).toNat]? = some [.int .i64 k, .int .i64 a] := by simp [frmV]
      conv => whnf
      rw [h0]
      conv => whnf
      refine callN [(1, 0)] (open_good q) ?_ 
      conv => whnf
      refine ⟨⟨⟩, rfl, ?_⟩
      rw [Rd.clo] at hU
      cases ho : q.isOpen with
      | false =>
        rw [ho, if_neg (by simp)] at hU
        subst hU
        conv => whnf
        refine ⟨[], rfl, ?_⟩
        conv => whnf
        refine ⟨⟨⟩, rfl, ?_⟩
        conv => whnf
        refine ⟨⟨⟩, rfl, ?_⟩
        conv => whnf
        refine ⟨⟨⟩, rfl, ?_⟩
        conv => whnf
        exact ⟨⟨⟩, rfl, trivial⟩
      | true =>
        rw [ho, if_pos rfl] at hU
        conv => whnf
        refine ⟨by kernel_rfl, ?_⟩
        conv => whnf
        rw [hw]
        refine ⟨⟨⟩, by rw [frmV_len, List.length_cons]; omega, ?_⟩
        conv => whnf
        refine ⟨_, hrow, ?_⟩
        conv => whnf
        refine call0 (arms_good k) ?_
        rcases arms_cases k with ⟨ha, hkk⟩ | ⟨ha, hkk⟩ | ⟨ha, hkk⟩ | ⟨ha, hkk⟩
        · have hU2 : (if (Rd.wordsR twosL q).1 = 0 then (true, (k, a) :: t, n, q.fail) else (false, ((Rd.wordsR twosL q).1, (n.length : Int) - 1) :: t, n, (Rd.wordsR twosL q).2)) = U := by rw [← hU, if_neg (show ¬ armsN k = 1 by omega), if_neg (show ¬ armsN k = 2 by omega)]
          rw [ha]
          conv => whnf
          refine call0 (twos_good) ?_
          conv => whnf
          refine callN [(0, 0), (1, 0), (2, 0), (3, 0), (3776, 0)] (words2_good q n ((k, a) :: t) hql) ?_
          conv => whnf
          refine ⟨⟨⟩, rfl, ?_⟩
          conv => whnf
          refine ⟨⟨⟩, rfl, ?_⟩
          conv => whnf
          refine ⟨⟨⟩, rfl, ?_⟩
          conv => whnf
          refine ⟨⟨⟩, rfl, ?_⟩
          conv => whnf
          refine ⟨⟨⟩, rfl, ?_⟩
          have hne := @Rd.wordsR_ne twosL q
          have hz := @Rd.wordsR_0 twosL q Rd.twos_ne
          generalize Rd.wordsR twosL q = w at *
          obtain ⟨wk, q2⟩ := w
          dsimp only at hne hz hU2
          conv => whnf
          refine branch_of (fun hk => ?_) (fun hk => ?_)
          · have hk2 : wk = 0 := of_decide_eq_true hk
            have := hz hk2
            subst this
            rw [if_pos hk2] at hU2
            subst hU2
            conv => whnf
            refine ⟨[], rfl, ?_⟩
            conv => whnf
            refine ⟨⟨⟩, rfl, ?_⟩
            conv => whnf
            refine ⟨⟨⟩, rfl, ?_⟩
            conv => whnf
            refine ⟨⟨⟩, rfl, ?_⟩
            conv => whnf
            exact ⟨⟨⟩, rfl, trivial⟩
          · have hk2 : ¬ wk = 0 := of_decide_eq_false hk
            rw [if_neg hk2] at hU2
            subst hU2
            conv => whnf
            rw [hw2]
            refine ⟨⟨⟩, by dsimp only; rw [frmV_len, List.length_cons]; omega, ?_⟩
            conv => whnf
            refine ⟨_, hrow, ?_⟩
            conv => whnf
            have hset : (frmV ((k, a) :: t)).set t.length [.int .i64 wk, .int .i64 ((n.length : Int) - 1)] = frmV ((wk, (n.length : Int) - 1) :: t) := by
              rw [frmV_cons, frmV_cons, List.set_append_right _ _ (by rw [frmV_len]; exact Nat.le_refl _), frmV_len, Nat.sub_self]; rfl
            have hset2 : (frmV ((k, a) :: t)).set ((t.length : Nat) : Int).toNat [.int .i64 (wk, q2).1, .int .i64 ((n.length : Int) - 1)] = frmV ((wk, (n.length : Int) - 1) :: t) := hset
            rw [hset2]
            refine ⟨[], rfl, ?_⟩
            conv => whnf
            refine ⟨⟨⟩, rfl, ?_⟩
            conv => whnf
            refine ⟨⟨⟩, rfl, ?_⟩
            conv => whnf
            refine ⟨⟨⟩, rfl, ?_⟩
            conv => whnf
            exact ⟨⟨⟩, rfl, trivial⟩
        · rw [if_pos ha] at hU
          rw [ha]
          conv => whnf
          rw [hw2]
          refine callN [(0, 0), (1, 0), (2, 0), (3, 0)] (put_good q n ((k, a) :: t) ⟨k, zeroA, (n.length : Int) - 1, 0⟩ (by omega)) ?_
          conv => whnf
          refine ⟨⟨⟩, rfl, ?_⟩
          conv => whnf
          refine ⟨⟨⟩, rfl, ?_⟩
          conv => whnf
          refine ⟨⟨⟩, rfl, ?_⟩
          conv => whnf
          refine ⟨⟨⟩, rfl, ?_⟩
          conv => whnf
          refine ⟨true, trivial, ?_⟩
          conv => whnf
          refine ⟨⟨⟩, by dsimp only; rw [frmV_len, List.length_cons]; omega, ?_⟩
          conv => whnf
          refine ⟨t.length, by simp, t, n ++ [⟨k, zeroA, (n.length : Int) - 1, 0⟩], q, rfl, hq, by rw [List.length_append, List.length_cons, List.length_nil]; omega, hU, ?_⟩
          have htk : (frmV ((k, a) :: t)).take ((t.length : Nat) : Int).toNat = frmV t := by rw [frmV_cons, Int.toNat_natCast, List.take_append_of_le_length (by rw [frmV_len]; exact Nat.le_refl _), List.take_of_length_le (by rw [frmV_len]; exact Nat.le_refl _)]
          rw [htk]
        · rw [if_neg (by omega), if_pos ha] at hU
          rw [ha]
          conv => whnf
          refine callN [(1, 0)] (want_good q [41] hql) ?_ 
          conv => whnf
          refine ⟨⟨⟩, rfl, ?_⟩
          have hwl := Rd.want_l q 5 [41]
          conv => whnf
          rw [hw2]
          refine callN [(0, 0), (1, 0), (2, 0), (3, 0)] (put_good (q.want 5 [41]) n ((k, a) :: t) ⟨k, zeroA, a, (n.length : Int) - 1⟩ (by omega)) ?_
          conv => whnf
          refine ⟨⟨⟩, rfl, ?_⟩
          conv => whnf
          refine ⟨⟨⟩, rfl, ?_⟩
          conv => whnf
          refine ⟨⟨⟩, rfl, ?_⟩
          conv => whnf
          refine ⟨⟨⟩, rfl, ?_⟩
          conv => whnf
          refine ⟨true, trivial, ?_⟩
          conv => whnf
          refine ⟨⟨⟩, by dsimp only; rw [frmV_len, List.length_cons]; omega, ?_⟩
          conv => whnf
          refine ⟨t.length, by simp, t, n ++ [⟨k, zeroA, a, (n.length : Int) - 1⟩], q.want 5 [41], rfl, hwl.1.trans hq, by rw [List.length_append, List.length_cons, List.length_nil]; omega, hU, ?_⟩
          have htk : (frmV ((k, a) :: t)).take ((t.length : Nat) : Int).toNat = frmV t := by rw [frmV_cons, Int.toNat_natCast, List.take_append_of_le_length (by rw [frmV_len]; exact Nat.le_refl _), List.take_of_length_le (by rw [frmV_len]; exact Nat.le_refl _)]
          rw [htk]
        · have hU2 : (if (Rd.wordsR twosL q).1 = 0 then (true, (k, a) :: t, n, q.fail) else (false, ((Rd.wordsR twosL q).1, (n.length : Int) - 1) :: t, n, (Rd.wordsR twosL q).2)) = U := by rw [← hU, if_neg (show ¬ armsN k = 1 by omega), if_neg (show ¬ armsN k = 2 by omega)]
          rw [ha]
          conv => whnf
          refine call0 (twos_good) ?_
          conv => whnf
          refine callN [(0, 0), (1, 0), (2, 0), (3, 0), (3776, 0)] (words2_good q n ((k, a) :: t) hql) ?_
          conv => whnf
          refine ⟨⟨⟩, rfl, ?_⟩
          conv => whnf
          refine ⟨⟨⟩, rfl, ?_⟩
          conv => whnf
          refine ⟨⟨⟩, rfl, ?_⟩
          conv => whnf
          refine ⟨⟨⟩, rfl, ?_⟩
          conv => whnf
          refine ⟨⟨⟩, rfl, ?_⟩
          have hne := @Rd.wordsR_ne twosL q
          have hz := @Rd.wordsR_0 twosL q Rd.twos_ne
          generalize Rd.wordsR twosL q = w at *
          obtain ⟨wk, q2⟩ := w
          dsimp only at hne hz hU2
          conv => whnf
          refine branch_of (fun hk => ?_) (fun hk => ?_)
          · have hk2 : wk = 0 := of_decide_eq_true hk
            have := hz hk2
            subst this
            rw [if_pos hk2] at hU2
            subst hU2
            conv => whnf
            refine ⟨[], rfl, ?_⟩
            conv => whnf
            refine ⟨⟨⟩, rfl, ?_⟩
            conv => whnf
            refine ⟨⟨⟩, rfl, ?_⟩
            conv => whnf
            refine ⟨⟨⟩, rfl, ?_⟩
            conv => whnf
            exact ⟨⟨⟩, rfl, trivial⟩
          · have hk2 : ¬ wk = 0 := of_decide_eq_false hk
            rw [if_neg hk2] at hU2
            subst hU2
            conv => whnf
            rw [hw2]
            refine ⟨⟨⟩, by dsimp only; rw [frmV_len, List.length_cons]; omega, ?_⟩
            conv => whnf
            refine ⟨_, hrow, ?_⟩
            conv => whnf
            have hset : (frmV ((k, a) :: t)).set t.length [.int .i64 wk, .int .i64 ((n.length : Int) - 1)] = frmV ((wk, (n.length : Int) - 1) :: t) := by
              rw [frmV_cons, frmV_cons, List.set_append_right _ _ (by rw [frmV_len]; exact Nat.le_refl _), frmV_len, Nat.sub_self]; rfl
            have hset2 : (frmV ((k, a) :: t)).set ((t.length : Nat) : Int).toNat [.int .i64 (wk, q2).1, .int .i64 ((n.length : Int) - 1)] = frmV ((wk, (n.length : Int) - 1) :: t) := hset
            rw [hset2]
            refine ⟨[], rfl, ?_⟩
            conv => whnf
            refine ⟨⟨⟩, rfl, ?_⟩
            conv => whnf
            refine ⟨⟨⟩, rfl, ?_⟩
            conv => whnf
            refine ⟨⟨⟩, rfl, ?_⟩
            conv => whnf
            exact ⟨⟨⟩, rfl, trivial⟩
end Go.PV
namespace Go.PV
open Go Go.Proofs
set_option maxRecDepth 100000
theorem formula_good (r : Rd) (hb : tokB r.l) (hv : Iv r) : Good Tryz.prog 90 [.ptr 0 0 0] [.box 0 [.ptr 1 0 0, .nil, .nil], r.ob] [.own 2 0] [rdsO, r.formula.2.2.ob, arrN r.formula.2.1, arrF r.formula.1] := by
  have hl := hb.1
  have hvle := hv.le
  refine good_of hP Tryz.func90 (by kernel_rfl) (lv := [0, 2, 3, 12]) (js := []) ⟨rfl, rfl, rfl, rfl, rfl, rfl, _, rfl, ?_⟩
  generalize hU : r.formula = U
  unfold Rd.formula at hU
  conv => whnf
  refine loop_of hP [0, 2, 3, 12] [] [0, 3] [0, 1, 100001, 100002] [.cell 0 1 5, .cell 0 2 2] (fun m s => ∃ (f : Nat) (q : Rd) (t : List Frm) (n : List Nod) (done : Bool), (if done then 0 else f + 1) = m ∧ q.l = r.l ∧ Iv q ∧ (done = false → Rd.forG f q t n = U ∧ n.length + t.length ≤ q.i ∧ r.l.length < f + q.i) ∧ (done = true → (t, n, q) = U) ∧
    s = ⟨[(0, .ptr 0 0 0), (3, .bool done)], [(0, .box 0 [.ptr 1 0 0, .own 100001 0, .own 100002 0]), (1, q.ob), (100001, arrN n), (100002, arrF t)]⟩) (r.l.length + 2) ?_ ?_
  · conv => whnf
    exact ⟨r.l.length + 1, r, [], [], false, rfl, rfl, hv, (fun _ => ⟨hU, Nat.zero_le _, by omega⟩), (fun h => by cases h), rfl⟩
  · rintro m s ⟨f, q, t, n, done, rfl, hq, hvq, h1, h2, rfl⟩
    have hvle := hvq.le
    rw [hq] at hvle
    have hbq : tokB q.l := by rw [hq]; exact hb
    cases done with
    | true =>
      have hU := h2 rfl
      subst hU
      conv => whnf
      refine ⟨[(100001, 0), (100002, 0)], rfl, ?_⟩
      conv => whnf
      refine ⟨⟨⟩, rfl, ?_⟩
      conv => whnf
      refine ⟨⟨⟩, rfl, ?_⟩
      conv => whnf
      refine ⟨⟨⟩, rfl, ?_⟩
      conv => whnf
      exact ⟨⟨⟩, rfl, trivial⟩
    | false =>
      obtain ⟨hU, hs, hf⟩ := h1 rfl
      conv => whnf
      refine callN [(1, 0)] (open_good q) ?_ 
      conv => whnf
      refine ⟨⟨⟩, rfl, ?_⟩
      cases ho : q.isOpen with
      | false =>
        have hU2 : Rd.forG f q t n = (t, n, q) := by
          cases f with
          | zero => rfl
          | succ f => rw [Rd.forG, if_neg (by rw [ho]; simp)]
        rw [hU2] at hU
        subst hU
        conv => whnf
        refine ⟨[(100001, 0), (100002, 0)], rfl, ?_⟩
        conv => whnf
        refine ⟨⟨⟩, rfl, ?_⟩
        conv => whnf
        refine ⟨⟨⟩, rfl, ?_⟩
        conv => whnf
        refine ⟨⟨⟩, rfl, ?_⟩
        conv => whnf
        exact ⟨⟨⟩, rfl, trivial⟩
      | true =>
        obtain ⟨f, rfl⟩ : ∃ g, f = g + 1 := ⟨f - 1, by omega⟩
        rw [Rd.forG, if_pos ho] at hU
        dsimp only at hU
        have hvb := Iv.beg (q.l.length + 1) t hvq
        have hbs := Rd.beg_st (q.l.length + 1) q t
        have hbl := Rd.beg_l (q.l.length + 1) q t
        conv => whnf
        refine callN [(0, 0), (1, 0), (100001, 0), (100002, 0)] (begins_good q n t hbq.1 (by omega)) ?_
        conv => whnf
        refine ⟨⟨⟩, rfl, ?_⟩
        conv => whnf
        refine ⟨⟨⟩, rfl, ?_⟩
        conv => whnf
        refine ⟨⟨⟩, rfl, ?_⟩
        conv => whnf
        refine ⟨⟨⟩, rfl, ?_⟩
        generalize Rd.beg (q.l.length + 1) q t = b at *
        obtain ⟨t2, q2⟩ := b
        obtain ⟨hbl1, hbl2⟩ := hbl
        dsimp only at hvb hbs hbl1 hbl2 hU
        have hb2 : tokB q2.l := by rw [hbl1]; exact hbq
        have hva := hvb.atom
        have hal := Rd.atom_l q2
        have hao := @Rd.atom_open q2
        have hle2 := hvb.le
        rw [hbl1, hq] at hle2
        conv => whnf
        refine callN [(1, 0)] (ratom_good q2 hb2) ?_ 
        conv => whnf
        refine ⟨⟨⟩, rfl, ?_⟩
        generalize q2.atom = x at *
        obtain ⟨a, q3⟩ := x
        obtain ⟨hal1, hal2⟩ := hal
        dsimp only at hva hal1 hal2 hao hU
        have hle3 := hva.le
        rw [hal1, hbl1, hq] at hle3
        conv => whnf
        refine callN [(0, 0), (1, 0), (100001, 1), (100002, 1)] (put_good q3 n t2 ⟨1, a, 0, 0⟩ (by omega)) ?_
        conv => whnf
        refine ⟨⟨⟩, rfl, ?_⟩
        conv => whnf
        refine ⟨⟨⟩, rfl, ?_⟩
        conv => whnf
        refine ⟨⟨⟩, rfl, ?_⟩
        conv => whnf
        refine ⟨⟨⟩, rfl, ?_⟩
        have hcl := Rd.clo_len t2 (n ++ [⟨1, a, 0, 0⟩]) q3
        have hco := @Rd.clo_open t2 (n ++ [⟨1, a, 0, 0⟩]) q3
        have hcf := Rd.clo_false t2 (n ++ [⟨1, a, 0, 0⟩]) q3
        have hcll := Rd.clo_l t2 (n ++ [⟨1, a, 0, 0⟩]) q3
        have hcv := Iv.clo t2 (n ++ [⟨1, a, 0, 0⟩]) hva
        rw [List.length_append, List.length_cons, List.length_nil] at hcl
        conv => whnf
        refine callN [(0, 0), (1, 0), (100001, 2), (100002, 2)] (closes_good q3 (n ++ [⟨1, a, 0, 0⟩]) t2 (by rw [hal1]; exact hb2.1) (by rw [List.length_append, List.length_cons, List.length_nil]; omega)) ?_
        conv => whnf
        refine ⟨⟨⟩, rfl, ?_⟩
        conv => whnf
        refine ⟨⟨⟩, rfl, ?_⟩
        conv => whnf
        refine ⟨⟨⟩, rfl, ?_⟩
        conv => whnf
        refine ⟨⟨⟩, rfl, ?_⟩
        generalize Rd.clo t2 (n ++ [⟨1, a, 0, 0⟩]) q3 = c at *
        obtain ⟨cd, ct, cn, cq⟩ := c
        obtain ⟨hcll1, hcll2⟩ := hcll
        dsimp only at hcl hco hcf hcll1 hcll2 hcv hU
        have hcq : cq.l = r.l := by rw [hcll1, hal1, hbl1, hq]
        cases cd with
        | true =>
          rw [if_pos rfl] at hU
          conv => whnf
          exact ⟨0, by simp, f, cq, ct, cn, true, rfl, hcq, hcv, (fun h => by cases h), (fun _ => hU), rfl⟩
        | false =>
          rw [if_neg (by simp)] at hU
          have hup := (hao (hco (hcf rfl))).2.2.1
          conv => whnf
          exact ⟨f + 1, by simp, f, cq, ct, cn, false, rfl, hcq, hcv, (fun _ => ⟨hU, by omega, by omega⟩), (fun h => by cases h), rfl⟩
theorem fright_good (p : Pat) (hn : p.n.length ≤ 1000000) (ht : atmB p.t) (hl : p.l.length ≤ 1000000) (hb : ∀ o ∈ p.l, nodB o) : Good Tryz.prog 87 [.agg p.v] [] [.bool (patOk p)] [] := by
  obtain ⟨n, t, l⟩ := p
  refine good_of hP Tryz.func87 (by kernel_rfl) (lv := [0, 1, 2]) (js := []) ⟨rfl, rfl, rfl, rfl, rfl, rfl, _, rfl, ?_⟩
  unfold patOk
  dsimp only at *
  conv => whnf
  refine call0 (fname_good n hn) ?_
  cases nameS n with
  | false =>
    rw [Bool.false_and]
    conv => whnf
    exact fin0 rfl trivial
  | true =>
  rw [Bool.true_and]
  conv => whnf
  refine call0 (mcheck_good t ht) ?_
  cases atomOk t with
  | false =>
    rw [Bool.false_and]
    conv => whnf
    exact fin0 rfl trivial
  | true =>
  rw [Bool.true_and]
  conv => whnf
  refine call0 (fcheck_good l hl hb) ?_
  cases fmlOk l with
  | false =>
    conv => whnf
    exact fin0 rfl trivial
  | true =>
    conv => whnf
    exact fin0 rfl trivial
theorem ftext_good (l : List Nod) (hl : l.length ≤ 1000000) (hb : ∀ o ∈ l, nodB o) : Good Tryz.prog 30 [.sl 5 (nodV l)] [] [.str (fmlX l), .int .i64 (fmlE l)] [] := by
  refine good_of hP Tryz.func30 (by kernel_rfl) (lv := [0, 2, 3, 4, 8]) (js := []) ⟨rfl, rfl, rfl, rfl, rfl, rfl, _, rfl, ?_⟩
  unfold fmlX fmlE
  conv => whnf
  refine call0 (fcheck_good l hl hb) ?_
  cases hk : fmlOk l with
  | false =>
    rw [if_neg (by simp), if_neg (by simp)]
    conv => whnf
    exact fin0 rfl trivial
  | true =>
    have := fmlT_len hk
    rw [if_pos rfl]
    conv => whnf
    refine call0 (ftx_good l hl hb hk) ?_
    conv => whnf
    refine call0 (limited_good (fmlT l) (by omega)) ?_
    generalize fmlT l = s at *
    by_cases h : 20000 < s.length
    · rw [if_pos h, if_pos h, if_neg (by simp)]
      conv => whnf
      exact fin0 rfl trivial
    · rw [if_neg h, if_neg h, if_pos rfl]
      conv => whnf
      exact fin0 rfl trivial
theorem fpattern_good (p : Pat) (hn : p.n.length ≤ 1000000) (ht : atmB p.t) (hl : p.l.length ≤ 1000000) (hb : ∀ o ∈ p.l, nodB o) : Good Tryz.prog 37 [.agg p.v] [] [.str (patX p), .int .i64 (patE p)] [] := by
  have hr := fright_good p hn ht hl hb
  refine good_of hP Tryz.func37 (by kernel_rfl) (lv := [0, 1, 2, 3, 4, 8]) (js := []) ⟨rfl, rfl, rfl, rfl, rfl, rfl, _, rfl, ?_⟩
  unfold patX patE
  conv => whnf
  refine call0 (hr) ?_
  cases hk : patOk p with
  | false =>
    rw [if_neg (by simp), if_neg (by simp)]
    conv => whnf
    exact fin0 rfl trivial
  | true =>
    obtain ⟨h1, h2, h3⟩ := patOk_all hk
    obtain ⟨l1, l2, l3, l4, l5⟩ := patT_len hk
    rw [if_pos rfl]
    have hT : patT p = patW ++ [32] ++ p.n ++ [58, 32] ++ atomT p.t ++ [32, 61, 62, 32] ++ fmlT p.l ++ [46] := rfl
    obtain ⟨n, t, l⟩ := p
    dsimp only at *
    conv => whnf
    refine call0 (atomText_good t ht) ?_
    rw [h2, if_pos rfl]
    conv => whnf
    refine ⟨⟨⟩, by show 8 + n.length ≤ 9223372036854775807; omega, ?_⟩
    conv => whnf
    refine ⟨⟨⟩, by show ([112, 97, 116, 116, 101, 114, 110, 32] ++ n : Bs).length + 2 ≤ 9223372036854775807; simp only [List.length_append, List.length_cons, List.length_nil]; omega, ?_⟩
    conv => whnf
    refine ⟨⟨⟩, by show ([112, 97, 116, 116, 101, 114, 110, 32] ++ n ++ [58, 32] : Bs).length + (atomT t).length ≤ 9223372036854775807; simp only [List.length_append, List.length_cons, List.length_nil]; omega, ?_⟩
    conv => whnf
    refine ⟨⟨⟩, by show ([112, 97, 116, 116, 101, 114, 110, 32] ++ n ++ [58, 32] ++ atomT t : Bs).length + 4 ≤ 9223372036854775807; simp only [List.length_append, List.length_cons, List.length_nil]; omega, ?_⟩
    conv => whnf
    refine call0 (ftx_good l hl hb h3) ?_
    conv => whnf
    refine ⟨⟨⟩, by show ([112, 97, 116, 116, 101, 114, 110, 32] ++ n ++ [58, 32] ++ atomT t ++ [32, 61, 62, 32] : Bs).length + (fmlT l).length ≤ 9223372036854775807; simp only [List.length_append, List.length_cons, List.length_nil]; omega, ?_⟩
    conv => whnf
    refine ⟨⟨⟩, by show ([112, 97, 116, 116, 101, 114, 110, 32] ++ n ++ [58, 32] ++ atomT t ++ [32, 61, 62, 32] ++ fmlT l : Bs).length + 1 ≤ 9223372036854775807; simp only [List.length_append, List.length_cons, List.length_nil]; omega, ?_⟩
    conv => whnf
    refine call0 (limited_good (patT ⟨n, t, l⟩) (by omega)) ?_
    conv => whnf
    refine ⟨by kernel_rfl, ?_⟩
    conv => whnf
    generalize patT ⟨n, t, l⟩ = s at *
    by_cases h : 20000 < s.length
    · rw [if_pos h, if_pos h, if_neg (by simp)]
      exact fin0 rfl trivial
    · rw [if_neg h, if_neg h, if_pos rfl]
      exact fin0 rfl trivial
end Go.PV
namespace Go.PV
open Go Go.Proofs
set_option maxRecDepth 100000
theorem readP_good (l : List Tok) (i : Nat) (hb : tokB l) (hs5 : l.length + 1 ≤ 1000000) (hi : i ≤ l.length) : Good Tryz.prog 39 [.sl 4 (toksV l), .int .i64 i] [] [.agg (readP l i).1.v, .int .i64 (readP l i).2.1, .int .i64 (readP l i).2.2] [] := by
  have hv : Iv (rd0 l i) := ⟨hi, fun h => by cases h⟩
  refine good_of hP Tryz.func39 (by kernel_rfl) (lv := [0, 1, 4, 5, 6, 7, 8, 16, 72, 75]) (js := []) ⟨rfl, rfl, rfl, rfl, rfl, rfl, _, rfl, ?_⟩
  unfold readP
  dsimp only
  have hX : patR (rd0 l i) = patR (rd0 l i) := rfl
  generalize hXX : patR (rd0 l i) = X
  unfold patR at hXX
  dsimp only at hXX
  conv => whnf
  refine call0 ((begin_good l i hb.1).1 (by omega)) ?_
  rw [Int.toNat_natCast]
  conv => whnf
  refine callN [(1792, 0)] (ask_good (rd0 l i) patW hb.1) ?_ 
  conv => whnf
  refine ⟨⟨⟩, rfl, ?_⟩
  have v0 := hv.want 1 patW
  have e0 := Rd.want_l (rd0 l i) 1 patW
  generalize (rd0 l i).want 1 patW = r0 at *
  have b0 : tokB r0.l := by rw [e0.1]; exact hb
  conv => whnf
  refine callN [(1792, 0)] (rname_good r0 b0.1 (fun t h => Nat.le_trans (b0.2 t h) (by omega))) ?_ 
  conv => whnf
  refine ⟨⟨⟩, rfl, ?_⟩
  have v1 := v0.name
  have s1 := Rd.name_s r0
  have e1 := Rd.name_l r0
  generalize r0.name = r1 at *
  have b1 : tokB r1.2.l := by rw [e1.1]; exact b0
  conv => whnf
  refine callN [(1792, 0)] (want_good r1.2 [58] b1.1) ?_ 
  conv => whnf
  refine ⟨⟨⟩, rfl, ?_⟩
  have v2 := v1.want 5 [58]
  have e2 := Rd.want_l r1.2 5 [58]
  generalize r1.2.want 5 [58] = r2 at *
  have b2 : tokB r2.l := by rw [e2.1]; exact b1
  conv => whnf
  refine callN [(1792, 0)] (ratom_good r2 b2) ?_ 
  conv => whnf
  refine ⟨⟨⟩, rfl, ?_⟩
  have v3 := v2.atom
  have s3 := Rd.atom_s r2
  have e3 := Rd.atom_l r2
  generalize r2.atom = r3 at *
  have b3 : tokB r3.2.l := by rw [e3.1]; exact b2
  conv => whnf
  refine callN [(1792, 0)] (want_good r3.2 [61, 62] b3.1) ?_ 
  conv => whnf
  refine ⟨⟨⟩, rfl, ?_⟩
  have v4 := v3.want 5 [61, 62]
  have e4 := Rd.want_l r3.2 5 [61, 62]
  generalize r3.2.want 5 [61, 62] = r4 at *
  have b4 : tokB r4.l := by rw [e4.1]; exact b3
  conv => whnf
  refine callN [(85, 0), (1792, 0)] (formula_good r4 b4 v4) ?_
  conv => whnf
  refine ⟨⟨⟩, rfl, ?_⟩
  conv => whnf
  refine ⟨⟨⟩, rfl, ?_⟩
  obtain ⟨hfl, hfb⟩ := Rd.formula_b v4
  have e5 := Rd.formula_l r4
  generalize r4.formula = x at *
  obtain ⟨st, n, r5⟩ := x
  dsimp only at hfl hfb e5 hXX
  have hl4 : r4.l = l := by rw [e4.1, e3.1, e2.1, e1.1, e0.1]
  have hfl : n.length ≤ 1000000 := by rw [hl4] at hfl; exact Nat.le_trans hfl hs5
  have b5 : tokB r5.l := by rw [e5.1]; exact b4
  conv => whnf
  refine callN [(1792, 0)] (want_good r5 [46] b5.1) ?_ 
  conv => whnf
  refine ⟨⟨⟩, rfl, ?_⟩
  generalize r5.want 5 [46] = r6 at *
  conv => whnf
  refine callN [(1792, 0)] (end_good r6 i) ?_ 
  conv => whnf
  refine ⟨⟨⟩, rfl, ?_⟩
  subst hXX
  dsimp only
  conv => whnf
  refine branch_of (fun h => ?_) (fun h => ?_)
  · have h : r6.endE = 0 := of_decide_eq_true h
    rw [if_pos h]
    conv => whnf
    refine call0 (fright_good ⟨r1.1, r3.1, n⟩ s1 s3 hfl hfb) ?_
    cases hk : patOk ⟨r1.1, r3.1, n⟩ with
    | true =>
      rw [if_pos rfl, h]
      conv => whnf
      exact fin0 rfl trivial
    | false =>
      rw [if_neg (by simp)]
      conv => whnf
      exact fin0 rfl trivial
  · have h : ¬ r6.endE = 0 := of_decide_eq_false h
    have e7 : r6.endE = 7 := by
      unfold Rd.endE at *
      split at h
      · rename_i hc; rw [if_pos hc]
      · exact absurd rfl h
    rw [if_neg h, e7]
    conv => whnf
    exact fin0 rfl trivial
end Go.PV
namespace Go.PV
open Go
/-! the pattern of law 12's wakes -/
def p12 : Pat := ⟨[97], ⟨[114], [⟨[88], zeroV⟩]⟩, [⟨1, ⟨[112], [⟨[88], zeroV⟩]⟩, 0, 0⟩, ⟨2, zeroA, 0, 0⟩, ⟨1, ⟨[113], [⟨[88], zeroV⟩]⟩, 0, 0⟩, ⟨8, zeroA, 1, 2⟩]⟩
def w12 : Bs := [112, 97, 116, 116, 101, 114, 110, 32, 97, 58, 32, 114, 40, 88, 41, 32, 61, 62, 32, 40, 110, 111, 116, 32, 112, 40, 88, 41, 32, 115, 105, 110, 99, 101, 32, 113, 40, 88, 41, 41, 46]
theorem p12_ok : patOk p12 = true := by decide +kernel
theorem p12_T : patT p12 = w12 := by decide +kernel
theorem p12_X : patX p12 = w12 ∧ patE p12 = 0 := by decide +kernel
theorem p12_F : fmlX p12.l = [40, 110, 111, 116, 32, 112, 40, 88, 41, 32, 115, 105, 110, 99, 101, 32, 113, 40, 88, 41, 41] ∧ fmlE p12.l = 0 := by decide +kernel
theorem p12_N : fromN p12.l 1 = 0 ∧ fromN p12.l 2 = 2 := by decide +kernel
end Go.PV
namespace Go.PV
open Go
/-! long regions, piece by piece (the kernel looks at the rest of a piece under its binder) -/
theorem Pr.wp_mono : ∀ (p : Pr) {s : St} {A B : List Loc} {K1 K2 : St → List Loc → List Loc → Prop}, (∀ s A B, K1 s A B → K2 s A B) → p.wp s A B K1 → p.wp s A B K2 := by
  intro p
  induction p with
  | done => intro s A B K1 K2 hk h; exact hk _ _ _ h
  | fail => intro s A B K1 K2 hk h; exact h
  | get t k ih => intro s A B K1 K2 hk h; simp only [Pr.wp, forceW_eq] at h ⊢; exact ih _ hk h
  | put t v k ih => intro s A B K1 K2 hk h; simp only [Pr.wp, St.putP_eq] at h ⊢; exact ih hk h
  | getO id k ih => intro s A B K1 K2 hk h; exact ih _ hk h
  | putO id o k ih => intro s A B K1 K2 hk h; simp only [Pr.wp, St.putOP_eq] at h ⊢; exact ih hk h
  | brs t p q ihp ihq =>
    intro s A B K1 K2 hk h
    simp only [Pr.wp] at h ⊢
    split at h
    · rename_i b hb
      simp only [St.putP_eq] at h ⊢
      cases b with
      | true => exact ihp hk h
      | false => exact ihq hk h
    · exact h.elim
  | ex β φ k ih => intro s A B K1 K2 hk h; obtain ⟨b, hb, h⟩ := h; exact ⟨b, hb, ih _ hk h⟩
end Go.PV
namespace Go.PV
open Go Go.Proofs
set_option maxRecDepth 100000
def nodsH (l : List Nod) : Bool := decide (60 < l.length) || l.any fun o => atmH o.a
def patH (p : Pat) : Bool := decide (200 < p.n.length) || (atmH p.t || nodsH p.l)
theorem atmH_B2 {a : Atm} (h : atmH a = false) : a.n.length ≤ 200 ∧ a.a.length ≤ 20 ∧ ∀ t ∈ a.a, t.v.length ≤ 200 ∧ t.x.s.length ≤ 200 := by
  unfold atmH trmH at h
  simp at h
  exact ⟨by omega, by omega, fun t ht => by have := h.2 t ht; exact ⟨by omega, by omega⟩⟩
theorem atmH_N {a : Atm} (h : atmH a = false) : a.n.length ≤ 1000000 ∧ a.a.length ≤ 1000000 ∧ ∀ t ∈ a.a, t.v.length ≤ 1000000 ∧ t.x.s.length ≤ 1000000 := by
  obtain ⟨h1, h2, h3⟩ := atmH_B2 h
  exact ⟨by omega, by omega, fun t ht => by have := h3 t ht; exact ⟨by omega, by omega⟩⟩
theorem nodsH_B {l : List Nod} (h : nodsH l = false) : l.length ≤ 60 ∧ ∀ o ∈ l, nodB o := by
  unfold nodsH at h
  simp only [Bool.or_eq_false_iff, decide_eq_false_iff_not, List.any_eq_false] at h
  exact ⟨by omega, fun o ho => atmH_N (by simpa using h.2 o ho)⟩
theorem patH_B {p : Pat} (h : patH p = false) : p.n.length ≤ 1000000 ∧ (p.t.n.length ≤ 1000000 ∧ p.t.a.length ≤ 1000000 ∧ ∀ t ∈ p.t.a, t.v.length ≤ 1000000 ∧ t.x.s.length ≤ 1000000) ∧ p.l.length ≤ 1000000 ∧ ∀ o ∈ p.l, nodB o := by
  unfold patH at h
  simp only [Bool.or_eq_false_iff, decide_eq_false_iff_not] at h
  obtain ⟨q1, q2⟩ := nodsH_B h.2.2
  exact ⟨by omega, atmH_N h.2.1, by omega, q2⟩
theorem heavyN_good (l : List Nod) : Good Tryz.prog 25 [.sl 5 (nodV l)] [] [.bool (nodsH l)] [] := by
  have hll : (nodV l).length = l.length := List.length_map _
  refine good_of hP Tryz.func25 (by kernel_rfl) (lv := [0, 2, 3, 6, 10, 18]) (js := []) ⟨rfl, rfl, rfl, rfl, rfl, rfl, _, rfl, ?_⟩
  unfold nodsH
  conv => whnf
  refine branch_of (fun h => ?_) (fun h => ?_)
  · have h := of_decide_eq_true h
    rw [hll] at h
    have h : 60 < l.length := by omega
    conv => whnf
    exact fin0 (by simp [h]) trivial
  have h := of_decide_eq_false h
  rw [hll] at h
  have h2 : ¬ 60 < l.length := by omega
  rw [decide_eq_false h2]
  conv => whnf
  refine loop_of hP [0, 2, 3, 6, 10, 18] [] [0, 3] [] [] (fun n st => ∃ k : Nat, n = l.length - k ∧ k ≤ l.length ∧ (l.any fun o => atmH o.a) = ((l.drop k).any fun o => atmH o.a) ∧ st = ⟨[(0, .sl 5 (nodV l)), (3, .int .i64 k)], []⟩) l.length ?_ ?_
  · conv => whnf
    exact ⟨0, rfl, Nat.zero_le _, rfl, rfl⟩
  · rintro n st ⟨k, rfl, hk, he, rfl⟩
    conv => whnf
    refine branch_of (fun h => ?_) (fun h => ?_)
    · have h := of_decide_eq_true h
      rw [hll] at h
      have hk' : k < l.length := by omega
      rw [anyL_step hk'] at he
      conv => whnf
      refine ⟨Nod.c l[k], idxM hk' rfl, ?_⟩
      conv => whnf
      refine call0 (heavyA_good l[k].a) ?_
      cases hc : atmH l[k].a with
      | true =>
        rw [hc, Bool.true_or] at he
        rw [he]
        conv => whnf
        exact fin0 rfl trivial
      | false =>
        rw [hc, Bool.false_or] at he
        conv => whnf
        refine ⟨l.length - (k + 1), by omega, k + 1, rfl, by omega, he, ?_⟩
        rw [wr (by omega) (by omega)]; rfl
    · have h := of_decide_eq_false h
      rw [hll] at h
      rw [anyL_end (by omega)] at he
      rw [he]
      conv => whnf
      exact fin0 rfl trivial
theorem p12_B : (∀ o ∈ p12.l, nodB o) ∧ (p12.t.n.length ≤ 1000000 ∧ p12.t.a.length ≤ 1000000 ∧ ∀ t ∈ p12.t.a, t.v.length ≤ 1000000 ∧ t.x.s.length ≤ 1000000) := by
  have : patH p12 = false := by decide +kernel
  exact ⟨(patH_B this).2.2.2, (patH_B this).2.1⟩
theorem p12_all : ∃ (P : Pat) (w f : Bs) (n : Nat) (e0 e1 e2 e3 a1 a2 : Int), errR w12 = e0 ∧ readP (toksR w12) 0 = (P, n, e1) ∧ patX P = w ∧ patE P = e2 ∧ fmlX P.l = f ∧ fmlE P.l = e3 ∧ fromN P.l 1 = a1 ∧ fromN P.l 2 = a2 ∧ P.l.length = 4 ∧ P.n.length ≤ 1000000 ∧ (∀ o ∈ P.l, nodB o) ∧ (P.t.n.length ≤ 1000000 ∧ P.t.a.length ≤ 1000000 ∧ ∀ t ∈ P.t.a, t.v.length ≤ 1000000 ∧ t.x.s.length ≤ 1000000) ∧
    w = [112, 97, 116, 116, 101, 114, 110, 32, 97, 58, 32, 114, 40, 88, 41, 32, 61, 62, 32, 40, 110, 111, 116, 32, 112, 40, 88, 41, 32, 115, 105, 110, 99, 101, 32, 113, 40, 88, 41, 41, 46] ∧ f = [40, 110, 111, 116, 32, 112, 40, 88, 41, 32, 115, 105, 110, 99, 101, 32, 113, 40, 88, 41, 41] ∧ n = (toksR w12).length ∧ e0 = 0 ∧ e1 = 0 ∧ e2 = 0 ∧ e3 = 0 ∧ a1 = 0 ∧ a2 = 2 := by
  have hp := parse_pat p12_ok
  rw [p12_T] at hp
  exact ⟨p12, _, _, _, _, _, _, _, _, _, hp.1, hp.2, rfl, p12_X.2, rfl, p12_F.2, p12_N.1, p12_N.2, rfl, by decide, p12_B.1, p12_B.2, p12_X.1, p12_F.1, rfl, rfl, rfl, rfl, rfl, rfl, rfl⟩
theorem w12_len : (toksR w12).length + 1 ≤ 1000000 := by
  rcases chain_len (chain_R w12) with h | h
  · have : w12.length = 41 := rfl
    omega
  · rw [h]; decide
theorem wakes12_good : Good Tryz.prog 31 [] [] [.bool true] [] := by
  refine good_of hP Tryz.func31 (by kernel_rfl) (lv := [0, 1, 3, 4, 5, 6, 7, 8, 9, 10]) (js := []) ⟨rfl, rfl, rfl, rfl, rfl, rfl, _, rfl, ?_⟩
  obtain ⟨P, w, f, n, e0, e1, e2, e3, a1, a2, h1, h2, h3, h4, h5, h6, h7, h8, h9, h10, h11, h12, h13, h14, hn, q0, q1, q2, q3, q4, q5⟩ := p12_all
  have hb := tokB_R w12 (by decide)
  have hr := readP_good (toksR w12) 0 hb w12_len (Nat.zero_le _)
  rw [h2] at hr
  conv => whnf
  refine call0 (tokens_good w12 (by decide)) ?_
  rw [h1]
  clear h2 h1
  generalize toksR w12 = l at *
  generalize posR w12 = z
  conv => whnf
  refine call0 (hr) ?_
  conv => whnf
  refine call0 (fpattern_good P h10 h12 (by omega) h11) ?_
  rw [h3, h4]
  conv => whnf
  refine call0 (ftext_good P.l (by omega) h11) ?_
  rw [h5, h6]
  conv => whnf
  refine branch_of (fun g => ?_) (fun g => ?_)
  · conv => whnf
    refine branch_of (fun g => ?_) (fun g => ?_)
    · conv => whnf
      refine branch_of (fun g => ?_) (fun g => ?_)
      · conv => whnf
        refine branch_of (fun g => ?_) (fun g => ?_)
        · conv => whnf
          refine branch_of (fun g => ?_) (fun g => ?_)
          · conv => whnf
            refine branch_of (fun g => ?_) (fun g => ?_)
            · conv => whnf
              refine branch_of (fun g => ?_) (fun g => ?_)
              · conv => whnf
                refine branch_of (fun g => ?_) (fun g => ?_)
                · conv => whnf
                  refine call0 (ffrom_good P.l 1 (by omega) h11) ?_
                  rw [h7]
                  conv => whnf
                  refine branch_of (fun g => ?_) (fun g => ?_)
                  · conv => whnf
                    refine call0 (ffrom_good P.l 2 (by omega) h11) ?_
                    rw [h8]
                    conv => whnf
                    refine branch_of (fun g => ?_) (fun g => ?_)
                    · conv => whnf
                      refine call0 (fcheck_good [] (by decide) (fun o ho => by cases ho)) ?_
                      conv => whnf
                      exact fin0 rfl trivial
                    · exact absurd q5 (of_decide_eq_false g)
                  · exact absurd q4 (of_decide_eq_false g)
                · exact absurd h14 (of_decide_eq_false g)
              · exact absurd q3 (of_decide_eq_false g)
            · exact absurd h13 (of_decide_eq_false g)
          · exact absurd q2 (of_decide_eq_false g)
        · have g := of_decide_eq_false g
          rw [List.length_map] at g
          exact absurd (show ((P.l.length : Nat) : Int) = 4 by omega) g
      · have g := of_decide_eq_false g
        rw [List.length_map] at g; exact absurd (by rw [hn]) g
    · exact absurd q1 (of_decide_eq_false g)
  · exact absurd q0 (of_decide_eq_false g)
end Go.PV
namespace Go.PV
open Go Go.Proofs
set_option maxRecDepth 100000
theorem lower_good (c : UInt8) : Good Tryz.prog 196 [.int .u8 c.toNat] [] [.bool (smallB c)] [] := by
  refine good_of hP Tryz.func196 (by kernel_rfl) (lv := [0, 2]) (js := []) ⟨rfl, rfl, rfl, rfl, rfl, rfl, _, rfl, ?_⟩
  repeat' (conv => whnf); refine branch_of (fun _ => ?_) (fun _ => ?_)
  all_goals (conv => whnf); exact fin0 (by simp_all [smallB, inB] <;> first | omega | (rw [Bool.eq_iff_iff]; simp; omega)) trivial
theorem upper_good (c : UInt8) : Good Tryz.prog 197 [.int .u8 c.toNat] [] [.bool (largeB c)] [] := by
  refine good_of hP Tryz.func197 (by kernel_rfl) (lv := [0, 2]) (js := []) ⟨rfl, rfl, rfl, rfl, rfl, rfl, _, rfl, ?_⟩
  repeat' (conv => whnf); refine branch_of (fun _ => ?_) (fun _ => ?_)
  all_goals (conv => whnf); exact fin0 (by simp_all [largeB, inB] <;> first | omega | (rw [Bool.eq_iff_iff]; simp; omega)) trivial
theorem rdigit_good (c : UInt8) : Good Tryz.prog 199 [.int .u8 c.toNat] [] [.bool (digitB c)] [] := by
  refine good_of hP Tryz.func199 (by kernel_rfl) (lv := [0, 2]) (js := []) ⟨rfl, rfl, rfl, rfl, rfl, rfl, _, rfl, ?_⟩
  repeat' (conv => whnf); refine branch_of (fun _ => ?_) (fun _ => ?_)
  all_goals (conv => whnf); exact fin0 (by simp_all [digitB, inB] <;> first | omega | (rw [Bool.eq_iff_iff]; simp; omega)) trivial
theorem inner_good (c : UInt8) : Good Tryz.prog 208 [.int .u8 c.toNat] [] [.bool (letterB c)] [] := by
  refine good_of hP Tryz.func208 (by kernel_rfl) (lv := [0, 2]) (js := []) ⟨rfl, rfl, rfl, rfl, rfl, rfl, _, rfl, ?_⟩
  conv => whnf
  refine call0 (lower_good _) ?_
  cases h1 : smallB c with
  | true => conv => whnf
            exact fin0 (by simp [letterB, h1]) trivial
  | false =>
  conv => whnf
  refine call0 (upper_good _) ?_
  cases h2 : largeB c with
  | true => conv => whnf
            exact fin0 (by simp [letterB, h2]) trivial
  | false =>
  conv => whnf
  refine call0 (rdigit_good _) ?_
  cases h3 : digitB c with
  | true => conv => whnf
            exact fin0 (by simp [letterB, h3]) trivial
  | false =>
  conv => whnf
  refine fin0 ?_ trivial
  congr 2
  simp [letterB, h1, h2, h3]; omega
theorem in_good (a b c : Int) : Good Tryz.prog 185 [.int .i64 a, .int .i64 b, .int .i64 c] [] [.bool (decide (b ≤ a ∧ a ≤ c))] [] := by
  refine good_of hP Tryz.func185 (by kernel_rfl) (lv := [0, 1, 2, 6]) (js := []) ⟨rfl, rfl, rfl, rfl, rfl, rfl, _, rfl, ?_⟩
  conv => whnf
  refine branch_of (fun h => ?_) (fun h => ?_)
  · have h := of_decide_eq_true h
    conv => whnf
    exact fin0 (by simp [h]) trivial
  · have h := of_decide_eq_false h
    conv => whnf
    exact fin0 (by simp; omega) trivial
theorem word_good (s : Bs) (large : Bool) (hs : s.length ≤ 1000000) : Good Tryz.prog 146 [.str s, .bool large] [] [.bool (refWordS large s)] [] := by
  refine good_of hP Tryz.func146 (by kernel_rfl) (lv := [0, 1, 4, 5, 26, 30, 37]) (js := [26]) ⟨rfl, rfl, rfl, rfl, rfl, rfl, _, rfl, ?_⟩
  conv => whnf
  refine seq_of hP [0, 1, 4, 5, 26, 30, 37] [26] [0, 4] [] [] (fun st => refWordS large s = s.all letterB ∧ st = ⟨[(0, .str s), (4, .bool false)], []⟩) ?_ ?_
  · conv => whnf
    refine call0 (in_good s.length 1 24) ?_
    conv => whnf
    refine branch_of (fun h => ?_) (fun h => ?_)
    · rw [Bool.not_eq_true'] at h
      have h := of_decide_eq_false h
      conv => whnf
      refine fin0 ?_ trivial
      have : (decide (1 ≤ s.length) && decide (s.length ≤ 24)) = false := by simp; omega
      rw [refWordS, this]; simp
    have h : 1 ≤ s.length ∧ s.length ≤ 24 := by
      rw [Bool.not_eq_false'] at h
      have h := of_decide_eq_true h; omega
    have h0 : 0 < s.length := h.1
    obtain ⟨c, r, hcr, hc⟩ := head_at h0
    have hw : refWordS large s = ((if large then largeB c else smallB c) && s.all letterB) := by
      have e1 : decide (1 ≤ s.length) = true := by simp; omega
      have e2 : decide (s.length ≤ 24) = true := by simp; omega
      rw [refWordS, e1, e2]
      have : headB (fun c => if large then largeB c else smallB c) s = if large then largeB c else smallB c := by rw [hcr]; rfl
      rw [this]; simp
    rw [hw]
    conv => whnf
    refine ⟨c, by rw [← hc]; exact idx h0 rfl, ?_⟩
    conv => whnf
    refine call0 (upper_good _) ?_
    cases large with
    | true =>
      cases hl : largeB c with
      | false =>
        conv => whnf
        exact fin0 rfl trivial
      | true =>
        conv => whnf
        exact ⟨rfl, rfl⟩
    | false =>
      cases hl : largeB c with
      | true =>
        conv => whnf
        refine fin0 ?_ trivial
        rw [if_neg (by simp), large_not_small hl]; rfl
      | false =>
        conv => whnf
        refine ⟨c, by rw [← hc]; exact idx h0 rfl, ?_⟩
        conv => whnf
        refine call0 (lower_good _) ?_
        cases hsm : smallB c with
        | false =>
          conv => whnf
          exact fin0 rfl trivial
        | true =>
          conv => whnf
          exact ⟨rfl, rfl⟩
  rintro st ⟨hw, rfl⟩
  rw [hw]
  conv => whnf
  refine loop_of hP [0, 1, 4, 5, 26, 30, 37] [26] [0, 4, 5] [] [] (fun n st => ∃ k : Nat, n = s.length - k ∧ k ≤ s.length ∧ s.all letterB = (s.drop k).all letterB ∧ st = ⟨[(0, .str s), (4, .bool false), (5, .int .i64 k)], []⟩) s.length ?_ ?_
  · conv => whnf
    exact ⟨0, rfl, Nat.zero_le _, rfl, rfl⟩
  · rintro n st ⟨k, rfl, hk, he, rfl⟩
    conv => whnf
    refine branch_of (fun h => ?_) (fun h => ?_)
    · have h := of_decide_eq_true h
      have hk' : k < s.length := by omega
      rw [all_drop hk'] at he
      conv => whnf
      refine ⟨s[k], idx hk' rfl, ?_⟩
      conv => whnf
      refine call0 (inner_good _) ?_
      cases hl : letterB s[k] with
      | false =>
        rw [hl] at he
        conv => whnf
        exact fin0 (by rw [he]; rfl) trivial
      | true =>
        rw [hl, Bool.true_and] at he
        conv => whnf
        refine ⟨s.length - (k + 1), by omega, k + 1, rfl, by omega, he, ?_⟩
        rw [wr (by omega) (by omega)]; rfl
    · have h := of_decide_eq_false h
      have : s.drop k = [] := List.drop_eq_nil_iff.2 (by omega)
      rw [this] at he
      conv => whnf
      exact fin0 (by rw [he]; rfl) trivial
end Go.PV
namespace Go.PV
open Go Go.Proofs
set_option maxRecDepth 100000
theorem plainB_in (c : UInt8) : plainB c = decide ((32 : Int) ≤ (c.toNat : Int) ∧ (c.toNat : Int) ≤ 126) := by
  unfold plainB inB
  rw [Bool.eq_iff_iff]; simp; omega
/-- the page's right value -/
theorem refValue_good (v : Val) (hs : v.s.length ≤ 1000000) : Good Tryz.prog 136 [.agg v.c] [] [.bool (checkS v)] [] := by
  obtain ⟨k, n, s⟩ := v
  dsimp only at hs
  refine good_of hP Tryz.func136 (by kernel_rfl) (lv := [0, 1, 2, 3, 5, 6, 17, 27, 37, 42, 51]) (js := []) ⟨rfl, rfl, rfl, rfl, rfl, rfl, _, rfl, ?_⟩
  unfold checkS
  dsimp only
  conv => whnf
  refine branch_of (fun h => ?_) (fun h => ?_)
  · have h : k = 1 := of_decide_eq_true h
    rw [if_pos h]
    conv => whnf
    refine call0 (in_good n (-4611686018427387904) 4611686018427387904) ?_
    unfold inR
    refine branch_of (fun h2 => ?_) (fun h2 => ?_)
    · rw [h2]
      conv => whnf
      have e : decide ((s.length : Int) = 0) = decide (s = []) := by
        rw [decide_eq_decide]; constructor
        · intro e; exact List.eq_nil_of_length_eq_zero (by omega)
        · intro e; subst e; rfl
      exact fin0 (by rw [Bool.true_and, ← e]) trivial
    · rw [h2]
      conv => whnf
      exact fin0 rfl trivial
  have h : ¬ k = 1 := of_decide_eq_false h
  rw [if_neg h]
  conv => whnf
  refine branch_of (fun h3 => ?_) (fun h3 => ?_)
  · have h3 : k = 2 := of_decide_eq_true h3
    rw [if_pos h3]
    conv => whnf
    refine branch_of (fun h4 => ?_) (fun h4 => ?_)
    · rw [h4]
      conv => whnf
      refine call0 (word_good s false hs) ?_
      rw [symbol_word]
      conv => whnf
      exact fin0 rfl trivial
    · rw [h4]
      conv => whnf
      exact fin0 rfl trivial
  have h3 : ¬ k = 2 := of_decide_eq_false h3
  rw [if_neg h3]
  conv => whnf
  refine branch_of (fun h5 => ?_) (fun h5 => ?_)
  · have h5 : k = 3 := of_decide_eq_true h5
    rw [if_pos h5]
    conv => whnf
    refine branch_of (fun h6 => ?_) (fun h6 => ?_)
    · rw [Bool.not_eq_true'] at h6
      rw [h6]
      conv => whnf
      exact fin0 rfl trivial
    rw [Bool.not_eq_false'] at h6
    rw [h6, Bool.true_and]
    conv => whnf
    refine branch_of (fun h7 => ?_) (fun h7 => ?_)
    · have h7 := of_decide_eq_true h7
      dsimp only at h7
      conv => whnf
      exact fin0 (by unfold plainS; rw [decide_eq_false (by omega), Bool.and_false]) trivial
    have h7 := of_decide_eq_false h7
    dsimp only at h7
    have e : plainS s = s.all plainB := by unfold plainS; rw [decide_eq_true (by omega), Bool.and_true]
    rw [e]
    conv => whnf
    refine loop_of hP [0, 1, 2, 3, 5, 6, 17, 27, 37, 42, 51] [] [1, 2, 3] [65] [] (fun m st => ∃ i : Nat, m = s.length - i ∧ i ≤ s.length ∧ s.all plainB = (s.drop i).all plainB ∧ st = ⟨[(1, .ptr 65 0 0), (2, .bool false), (3, .int .i64 i)], [(65, .box 0 (Val.c ⟨k, n, s⟩))]⟩) s.length ?_ ?_
    · conv => whnf
      exact ⟨0, rfl, Nat.zero_le _, rfl, rfl⟩
    · rintro m st ⟨i, rfl, hi, he, rfl⟩
      conv => whnf
      refine branch_of (fun h8 => ?_) (fun h8 => ?_)
      · have h8 := of_decide_eq_true h8
        have hi' : i < s.length := by dsimp only at h8; omega
        conv => whnf
        refine ⟨s[i], idx hi' rfl, ?_⟩
        conv => whnf
        have hw : IntKind.i64.wrap (s[i].toNat : Int) = s[i].toNat := by have := s[i].toNat_lt; rw [wr (by omega) (by omega)]
        rw [hw]
        refine call0 (in_good s[i].toNat 32 126) ?_
        rw [← plainB_in]
        rw [all_drop hi'] at he
        cases hp : plainB s[i] with
        | false =>
          rw [hp, Bool.false_and] at he
          rw [he]
          conv => whnf
          exact fin0 rfl trivial
        | true =>
          rw [hp, Bool.true_and] at he
          conv => whnf
          refine ⟨s.length - (i + 1), by omega, i + 1, rfl, by omega, he, ?_⟩
          rw [wr (by omega) (by omega)]; rfl
      · have h8 := of_decide_eq_false h8
        have h9 : s.drop i = [] := List.drop_eq_nil_iff.2 (by dsimp only at h8; omega)
        rw [h9] at he
        rw [he]
        conv => whnf
        exact fin0 rfl trivial
  · have h5 : ¬ k = 3 := of_decide_eq_false h5
    rw [if_neg h5]
    conv => whnf
    exact fin0 rfl trivial
end Go.PV
namespace Go.PV
open Go Go.Proofs
set_option maxRecDepth 100000
theorem in9_good (a b c : Int) : Good Tryz.prog 77 [.int .i64 a, .int .i64 b, .int .i64 c] [] [.bool (decide (b ≤ a ∧ a ≤ c))] [] := by
  refine good_of hP Tryz.func77 (by kernel_rfl) (lv := [0, 1, 2, 6]) (js := []) ⟨rfl, rfl, rfl, rfl, rfl, rfl, _, rfl, ?_⟩
  conv => whnf
  refine branch_of (fun h => ?_) (fun h => ?_)
  · have h := of_decide_eq_true h
    conv => whnf
    exact fin0 (by rw [show decide (b ≤ a ∧ a ≤ c) = decide (a ≤ c) from by rw [decide_eq_decide]; omega]) trivial
  · have h := of_decide_eq_false h
    conv => whnf
    exact fin0 (by rw [decide_eq_false (by omega)]) trivial
theorem words_good : Good Tryz.prog 147 [] [] [.sl 1 (strV wordsL)] [] := by
  refine good_of hP Tryz.func147 (by kernel_rfl) (lv := [0]) (js := []) ⟨rfl, rfl, rfl, rfl, rfl, rfl, _, rfl, ?_⟩
  conv => whnf
  exact fin0 rfl trivial
theorem refName_good (s : Bs) (hs : s.length ≤ 1000000) : Good Tryz.prog 85 [.str s] [] [.bool (nameS s)] [] := by
  refine good_of hP Tryz.func85 (by kernel_rfl) (lv := [0, 2, 3, 4, 7, 12, 20]) (js := []) ⟨rfl, rfl, rfl, rfl, rfl, rfl, _, rfl, ?_⟩
  unfold nameS
  conv => whnf
  refine call0 (word_good s false hs) ?_
  cases hw : refWordS false s with
  | false =>
    conv => whnf
    exact fin0 rfl trivial
  | true =>
  rw [Bool.true_and]
  conv => whnf
  refine call0 (words_good) ?_
  conv => whnf
  have hL : wordsL.length = 11 := rfl
  generalize wordsL = L at *
  refine loop_of hP [0, 2, 3, 4, 7, 12, 20] [] [0, 2, 3, 4] [] [] (fun n st => ∃ k : Nat, n = 11 - k ∧ k ≤ 11 ∧ (∀ j (h : j < L.length), j < k → L[j] ≠ s) ∧ st = ⟨[(0, .str s), (2, .bool false), (3, .sl 1 (strV L)), (4, .int .i64 k)], []⟩) 11 ?_ ?_
  · conv => whnf
    exact ⟨0, rfl, by omega, fun j _ h => by omega, rfl⟩
  · rintro n st ⟨k, rfl, hk, hn, rfl⟩
    conv => whnf
    refine branch_of (fun h => ?_) (fun h => ?_)
    · have h := of_decide_eq_true h
      rw [List.length_map] at h
      have hk' : k < L.length := by omega
      conv => whnf
      refine ⟨[.str L[k]], idxM hk' rfl, ?_⟩
      conv => whnf
      refine branch_of (fun h2 => ?_) (fun h2 => ?_)
      · have h2 := of_decide_eq_true h2
        have : decide (s ∈ L) = true := by rw [decide_eq_true_iff, ← h2]; exact List.getElem_mem hk'
        rw [this]
        conv => whnf
        exact fin0 rfl trivial
      · have h2 := of_decide_eq_false h2
        conv => whnf
        refine ⟨11 - (k + 1), by omega, k + 1, rfl, by omega, fun j hj hjk => ?_, ?_⟩
        · by_cases e : j = k
          · subst e; exact h2
          · exact hn j hj (by omega)
        · rw [wr (by omega) (by omega)]; rfl
    · have h := of_decide_eq_false h
      rw [List.length_map] at h
      have : decide (s ∈ L) = false := by
        rw [decide_eq_false_iff_not]; intro hm
        obtain ⟨j, hj, e⟩ := List.getElem_of_mem hm
        exact hn j hj (by omega) e
      rw [this]
      conv => whnf
      exact fin0 rfl trivial
theorem refTerm_good (t : Trm) (h1 : t.v.length ≤ 1000000) (h2 : t.x.s.length ≤ 1000000) : Good Tryz.prog 86 [.agg t.c] [] [.bool (termOk t)] [] := by
  obtain ⟨v, x⟩ := t
  dsimp only at h1 h2
  refine good_of hP Tryz.func86 (by kernel_rfl) (lv := [0, 1, 2, 6]) (js := []) ⟨rfl, rfl, rfl, rfl, rfl, rfl, _, rfl, ?_⟩
  unfold termOk
  dsimp only
  conv => whnf
  refine branch_of (fun h => ?_) (fun h => ?_)
  · have h := of_decide_eq_true h
    have hv : v ≠ [] := by rintro rfl; exact absurd h (show ¬ (0 : Int) < 0 by omega)
    rw [if_neg hv]
    conv => whnf
    refine call0 (word_good v true h1) ?_
    have ev : varS v = refWordS true v := rfl
    rw [← ev]
    cases varS v with
    | false =>
      conv => whnf
      exact fin0 rfl trivial
    | true =>
      conv => whnf
      refine ⟨_, (eqVal x zeroV).1, ?_⟩
      conv => whnf
      exact fin0 rfl trivial
  · have h := of_decide_eq_false h
    have hv : v = [] := List.eq_nil_of_length_eq_zero (by dsimp only at h; omega)
    rw [if_pos hv]
    conv => whnf
    refine call0 (refValue_good x h2) ?_
    conv => whnf
    exact fin0 rfl trivial
/-- what is played of atoms -/
def atmL (a : Atm) : Prop := a.n.length ≤ 1000000 ∧ ∀ t ∈ a.a, t.v.length ≤ 1000000 ∧ t.x.s.length ≤ 1000000
theorem refAtom_good (a : Atm) (hb : atmL a) : Good Tryz.prog 34 [.agg a.c] [] [.bool (atomOk a)] [] := by
  obtain ⟨n, l⟩ := a
  obtain ⟨h1, h2⟩ := hb
  dsimp only at h1 h2
  refine good_of hP Tryz.func34 (by kernel_rfl) (lv := [0, 1, 2, 3, 13, 18, 27]) (js := []) ⟨rfl, rfl, rfl, rfl, rfl, rfl, _, rfl, ?_⟩
  unfold atomOk
  dsimp only
  conv => whnf
  refine call0 (refName_good n h1) ?_
  cases hn : nameS n with
  | false =>
    conv => whnf
    exact fin0 rfl trivial
  | true =>
  rw [Bool.true_and]
  conv => whnf
  refine branch_of (fun h => ?_) (fun h => ?_)
  · have h := of_decide_eq_true h
    rw [List.length_map] at h
    dsimp only at h
    have e : decide (l.length ≤ 5) = false := decide_eq_false (by omega)
    rw [e, Bool.false_and]
    conv => whnf
    exact fin0 rfl trivial
  have h := of_decide_eq_false h
  rw [List.length_map] at h
  dsimp only at h
  have e : decide (l.length ≤ 5) = true := decide_eq_true (by omega)
  rw [e, Bool.true_and]
  conv => whnf
  refine loop_of hP [0, 1, 2, 3, 13, 18, 27] [] [1, 2, 3] [65] [] (fun m st => ∃ k : Nat, m = l.length - k ∧ k ≤ l.length ∧ l.all termOk = (l.drop k).all termOk ∧ st = ⟨[(1, .ptr 65 0 0), (2, .bool false), (3, .int .i64 k)], [(65, .box 0 (Atm.c ⟨n, l⟩))]⟩) l.length ?_ ?_
  · conv => whnf
    exact ⟨0, rfl, Nat.zero_le _, rfl, rfl⟩
  · rintro m st ⟨k, rfl, hk, he, rfl⟩
    conv => whnf
    refine branch_of (fun g => ?_) (fun g => ?_)
    · have g := of_decide_eq_true g
      rw [List.length_map] at g
      have hk' : k < l.length := by dsimp only at g; omega
      rw [List.drop_eq_getElem_cons hk', List.all_cons] at he
      conv => whnf
      refine ⟨Trm.c l[k], idxM hk' rfl, ?_⟩
      conv => whnf
      refine call0 (refTerm_good l[k] (h2 _ (List.getElem_mem hk')).1 (h2 _ (List.getElem_mem hk')).2) ?_
      cases ht : termOk l[k] with
      | false =>
        rw [ht, Bool.false_and] at he
        rw [he]
        conv => whnf
        exact fin0 rfl trivial
      | true =>
        rw [ht, Bool.true_and] at he
        conv => whnf
        refine ⟨l.length - (k + 1), by omega, k + 1, rfl, by omega, he, ?_⟩
        rw [wr (by omega) (by omega)]; rfl
    · have g := of_decide_eq_false g
      rw [List.length_map] at g
      have hd : l.drop k = [] := List.drop_eq_nil_iff.2 (by dsimp only at g; omega)
      rw [hd] at he
      rw [he]
      conv => whnf
      exact fin0 rfl trivial
end Go.PV
namespace Go.PV
open Go
/-! the page's readers keep their list; their place never falls -/
namespace Rf
theorem args_l : ∀ (f : Nat) (q : Rf), (args f q).2.l = q.l ∧ q.i ≤ (args f q).2.i
  | 0, q => ⟨rfl, Nat.le_refl _⟩
  | f + 1, q => by
    unfold args
    split
    · have h := term_l q.step
      have h2 := args_l f q.step.term.2
      have e1 : q.step.l = q.l ∧ q.step.i = q.i + 1 := ⟨rfl, rfl⟩
      dsimp only
      exact ⟨by rw [h2.1, h.1, e1.1], by omega⟩
    · exact ⟨rfl, Nat.le_refl _⟩
theorem atom_l (q : Rf) : q.atom.2.l = q.l ∧ q.i ≤ q.atom.2.i := by
  unfold atom
  have h := name_l q
  split
  · dsimp only
    have h1 := term_l q.name.2.step
    have h2 := args_l q.name.2.l.length q.name.2.step.term.2
    have h3 := take_l (args q.name.2.l.length q.name.2.step.term.2).2 5 [41]
    have e1 : q.name.2.step.l = q.name.2.l ∧ q.name.2.step.i = q.name.2.i + 1 := ⟨rfl, rfl⟩
    exact ⟨by rw [h3.1, h2.1, h1.1, e1.1, h.1], by omega⟩
  · exact h
end Rf
end Go.PV
namespace Go.PV
open Go
/-! the page's reader of formulas -/
namespace Rf
end Rf
def BadL (l : List Nod) : Prop := ∃ o ∈ l, o.k = 1 ∧ atomOk o.a = false
theorem BadL.app {l : List Nod} (h : BadL l) (m : List Nod) : BadL (l ++ m) := by
  obtain ⟨o, h1, h2⟩ := h
  exact ⟨o, List.mem_append_left _ h1, h2⟩
/-- the two lists of nodes -/
def NRel (w : Bool) (r : Rd) (l m : List Nod) : Prop := l.length = m.length ∧ ((m = l ∧ r.wrong = w) ∨ (BadL m ∧ (r.wrong = true ∨ BadL l)))
theorem NRel.app {w : Bool} {r r' : Rd} {l m : List Nod} (h : NRel w r l m) (o : Nod) (hw : r'.wrong = r.wrong) : NRel w r' (l ++ [o]) (m ++ [o]) := by
  refine ⟨by simp [h.1], ?_⟩
  rcases h.2 with ⟨h1, h2⟩ | ⟨h1, h2⟩
  · exact .inl ⟨by rw [h1], by rw [hw, h2]⟩
  · refine .inr ⟨h1.app _, ?_⟩
    rcases h2 with h2 | h2
    · exact .inl (by rw [hw, h2])
    · exact .inr (h2.app _)
theorem NRel.same {w : Bool} {r r' : Rd} {l m : List Nod} (h : NRel w r l m) (hw : r'.wrong = r.wrong) : NRel w r' l m := ⟨h.1, by rw [hw]; exact h.2⟩
end Go.PV
namespace Go.PV
open Go
/-! nil cells of an array's rows, read as data -/
theorem Sh.row {σ : Nat → Nat → Value → Prop} {n j m : Nat} {ys zs : List (List V)} {z : List V} {c : Value} (hz : z[j]? = some .nil) (h : Sh σ (.sl n (ys ++ z :: zs)) c) : Sh σ (.sl n (ys ++ z.set j (.sl m []) :: zs)) c := by
  generalize hq : ys ++ z :: zs = q at h
  cases h with
  | sl0 => simp at hq
  | sl _ _ b off cap c h0 hl hc hs hh =>
    subst hq
    have hiz : (ys ++ z :: zs)[ys.length]? = some z := by simp
    have hg : ∀ (i : Nat) (x : List V), (ys ++ z.set j (.sl m []) :: zs)[i]? = some x → (i = ys.length ∧ x = z.set j (.sl m [])) ∨ (ys ++ z :: zs)[i]? = some x := by
      intro i x hi
      rw [List.getElem?_append] at hi
      split at hi
      · rename_i hlt
        right; rw [List.getElem?_append_left hlt]; exact hi
      · rename_i hge
        cases hq : i - ys.length with
        | zero =>
          rw [hq] at hi
          simp only [List.getElem?_cons_zero, Option.some.injEq] at hi
          exact .inl ⟨by omega, hi.symm⟩
        | succ q =>
          rw [hq] at hi
          simp only [List.getElem?_cons_succ] at hi
          right; rw [List.getElem?_append_right (by omega), hq]; simpa using hi
    have hp : ∀ (i : Nat) (x : List V) (k : Nat) (p : V), (ys ++ z.set j (.sl m []) :: zs)[i]? = some x → x[k]? = some p → ∃ x' p', (ys ++ z :: zs)[i]? = some x' ∧ x'[k]? = some p' ∧ (p' = p ∨ (p' = .nil ∧ p = .sl m [])) := by
      intro i x k p hi hk
      rcases hg i x hi with ⟨e1, e2⟩ | e
      · subst e1; subst e2
        rw [List.getElem?_set] at hk
        split at hk
        · rename_i e
          subst e
          split at hk
          · cases hk; exact ⟨z, .nil, hiz, hz, .inr ⟨rfl, rfl⟩⟩
          · cases hk
        · exact ⟨z, p, hiz, hk, .inl rfl⟩
      · exact ⟨x, p, e, hk, .inl rfl⟩
    have hlen : (ys ++ z :: zs).length = (ys ++ z.set j (.sl m []) :: zs).length := by simp
    rw [hlen] at hc ⊢
    refine .sl _ _ b off cap c h0 (fun i x hi => ?_) hc (fun i x k p hi hk => ?_) (fun i x k p hi hk => ?_)
    · rcases hg i x hi with ⟨e1, e2⟩ | e
      · subst e1; subst e2; rw [List.length_set]; exact hl _ z hiz
      · exact hl i x e
    · obtain ⟨x', p', q1, q2, _⟩ := hp i x k p hi hk
      exact hs i x' k p' q1 q2
    · obtain ⟨x', p', q1, q2, q3⟩ := hp i x k p hi hk
      have := hh i x' k p' q1 q2
      rcases q3 with q3 | ⟨q3, q4⟩
      · rw [← q3]; exact this
      · subst q3; subst q4
        generalize c i k = v at this ⊢
        cases this
        exact .sl0 _ _ _
end Go.PV
namespace Go.PV
open Go
/-! arrays of numbers -/
def arrI (n : Nat) (f : Nat → Int) : List (List V) := (List.range n).map fun j => [.int .i64 (f j)]
theorem arrI_len (n : Nat) (f : Nat → Int) : (arrI n f).length = n := by simp [arrI]
theorem arrI_get {n k : Nat} (f : Nat → Int) (h : k < n) : (arrI n f)[k]? = some [.int .i64 (f k)] := by
  simp [arrI, h]
def updI (f : Nat → Int) (k : Nat) (v : Int) : Nat → Int := fun j => if j = k then v else f j
theorem updI_same (f : Nat → Int) (k : Nat) (v : Int) : updI f k v k = v := by simp [updI]
theorem updI_other {f : Nat → Int} {k j : Nat} {v : Int} (h : j ≠ k) : updI f k v j = f j := by simp [updI, h]
theorem arrI_set (n k : Nat) (f : Nat → Int) (v : Int) : (arrI n f).set k [.int .i64 v] = arrI n (updI f k v) := by
  apply List.ext_getElem
  · simp [arrI]
  · intro j h1 h2
    rw [List.getElem_set]
    simp only [arrI, List.getElem_map, List.getElem_range, updI]
    split
    · rename_i e; rw [if_pos e.symm]
    · rename_i e; rw [if_neg (Ne.symm e)]
theorem arrI_rep (n : Nat) : List.replicate n [V.int .i64 0] = arrI n fun _ => 0 := by
  apply List.ext_getElem
  · simp [arrI]
  · intro j h1 h2
    simp [arrI]
theorem fmlOk_iff {l : List Nod} {b : List (Nat × Nat)} {p : Nat × Nat} (h1 : 1 ≤ l.length) (h2 : l.length ≤ 40) (hb : fromsS l = some b) (hp : b[l.length - 1]? = some p) (hd : p.2 ≤ 12) : fmlOk l = decide ((p.1 : Int) = 0) := by
  have hl := (fromsGo_len hb).1
  simp only [List.length_nil, Nat.zero_add] at hl
  have hg : b.getLast? = some p := by rw [List.getLast?_eq_getElem?, hl]; exact hp
  unfold fmlOk
  rw [hb]
  dsimp only
  rw [hg, decide_eq_true ⟨h1, h2⟩, Bool.true_and]
  rw [Bool.eq_iff_iff]
  simp only [decide_eq_true_eq]
  omega
theorem fmlOk_deep {l : List Nod} {b : List (Nat × Nat)} (hb : fromsS l = some b) {p : Nat × Nat} (hp : p ∈ b) (hd : 12 < p.2) : fmlOk l = false := by
  cases hk : fmlOk l with
  | false => rfl
  | true =>
    obtain ⟨T, t1, rfl, t3, t4⟩ := fml_tree hk
    have e : fromsS (T.nodes 0) = some (T.acc 0) := FT.froms t1 []
    rw [e] at hb
    cases hb
    have := (T.acc_deep 0 p hp).1
    omega
theorem fmlOk_none {l : List Nod} (hb : fromsS l = none) : fmlOk l = false := by
  unfold fmlOk; rw [hb]; simp
theorem fmlOk_len {l : List Nod} (h : ¬ (1 ≤ l.length ∧ l.length ≤ 40)) : fmlOk l = false := by
  unfold fmlOk; rw [decide_eq_false h]; rfl
theorem nod1_none {a : List (Nat × Nat)} {x : Nod} (ha : armsN x.k = 1) (h : x.x ≠ (a.length : Int) - 1 ∨ x.y ≠ 0 ∨ x.a ≠ zeroA ∨ a = []) : nodS a x = none := by
  unfold nodS
  rw [if_neg (by omega), if_pos ha]
  split
  · rename_i q hq
    rw [if_neg]
    rintro ⟨h1, h2, h3⟩
    rcases h with h | h | h | h
    · exact h h1
    · exact h h2
    · exact h h3
    · subst h; cases hq
  · rfl
theorem nod1_some {a : List (Nat × Nat)} {x : Nod} {q : Nat × Nat} (ha : armsN x.k = 1) (hq : a.getLast? = some q) (h1 : x.x = (a.length : Int) - 1) (h2 : x.y = 0) (h3 : x.a = zeroA) : nodS a x = some (q.1, q.2 + 1) := by
  unfold nodS
  rw [if_neg (by omega), if_pos ha, hq]
  dsimp only
  rw [if_pos ⟨h1, h2, h3⟩]
theorem nod2_none {a : List (Nat × Nat)} {x : Nod} (ha : armsN x.k = 2) (h : x.a ≠ zeroA ∨ a = [] ∨ x.y ≠ (a.length : Int) - 1 ∨ ∃ q, a.getLast? = some q ∧ (q.1 = 0 ∨ x.x ≠ (q.1 : Int) - 1)) : nodS a x = none := by
  unfold nodS
  rw [if_neg (by omega), if_neg (by omega), if_pos ha]
  split
  · rename_i q hq
    rw [if_neg]
    rintro ⟨h1, h2, h3, h4⟩
    rcases h with h | h | h | ⟨p, h, h5⟩
    · exact h h4
    · subst h; cases hq
    · exact h h1
    · rw [hq] at h
      cases h
      rcases h5 with h5 | h5
      · omega
      · exact h5 h3
  · rfl
theorem nod2_some {a : List (Nat × Nat)} {x : Nod} {q u : Nat × Nat} (ha : armsN x.k = 2) (hq : a.getLast? = some q) (hu : a[q.1 - 1]? = some u) (h1 : x.y = (a.length : Int) - 1) (h2 : 1 ≤ q.1) (h3 : x.x = (q.1 : Int) - 1) (h4 : x.a = zeroA) : nodS a x = some (u.1, max u.2 q.2 + 1) := by
  unfold nodS
  rw [if_neg (by omega), if_neg (by omega), if_pos ha, hq]
  dsimp only
  rw [if_pos ⟨h1, h2, h3, h4⟩, hu]
end Go.PV
namespace Go.PV
open Go Go.Proofs
set_option maxRecDepth 100000
theorem qone_good (k : Int) : Good Tryz.prog 78 [.int .i64 k] [] [.bool (decide (armsN k = 1))] [] := by
  refine good_of hP Tryz.func78 (by kernel_rfl) (lv := [0, 2]) (js := []) ⟨rfl, rfl, rfl, rfl, rfl, rfl, _, rfl, ?_⟩
  rcases arms_cases k with ⟨h1, h2⟩ | ⟨h1, h2⟩ | ⟨h1, h2⟩ | ⟨h1, h2⟩
  · subst h2
    conv => whnf
    exact fin0 rfl trivial
  · rw [h1]
    rcases h2 with h2 | h2 | h2 | h2 <;> subst h2
    · conv => whnf
      exact fin0 rfl trivial
    · conv => whnf
      exact fin0 rfl trivial
    · conv => whnf
      exact fin0 rfl trivial
    · conv => whnf
      exact fin0 rfl trivial
  · rw [h1]
    rcases h2 with h2 | h2 | h2 <;> subst h2
    · conv => whnf
      exact fin0 rfl trivial
    · conv => whnf
      exact fin0 rfl trivial
    · conv => whnf
      exact fin0 rfl trivial
  · rw [h1]
    conv => whnf
    refine branch_of (fun q => ?_) (fun q => ?_)
    · exact absurd (of_decide_eq_true q) (by omega)
    conv => whnf
    refine branch_of (fun q => ?_) (fun q => ?_)
    · exact absurd (of_decide_eq_true q) (by omega)
    conv => whnf
    refine branch_of (fun q => ?_) (fun q => ?_)
    · exact absurd (of_decide_eq_true q) (by omega)
    conv => whnf
    exact fin0 (by rw [decide_eq_false (show ¬ k = 7 by omega)]; rfl) trivial
theorem qtwo_good (k : Int) : Good Tryz.prog 79 [.int .i64 k] [] [.bool (decide (armsN k = 2))] [] := by
  refine good_of hP Tryz.func79 (by kernel_rfl) (lv := [0, 2]) (js := []) ⟨rfl, rfl, rfl, rfl, rfl, rfl, _, rfl, ?_⟩
  rcases arms_cases k with ⟨h1, h2⟩ | ⟨h1, h2⟩ | ⟨h1, h2⟩ | ⟨h1, h2⟩
  · subst h2
    conv => whnf
    exact fin0 rfl trivial
  · rw [h1]
    rcases h2 with h2 | h2 | h2 | h2 <;> subst h2
    · conv => whnf
      exact fin0 rfl trivial
    · conv => whnf
      exact fin0 rfl trivial
    · conv => whnf
      exact fin0 rfl trivial
    · conv => whnf
      exact fin0 rfl trivial
  · rw [h1]
    rcases h2 with h2 | h2 | h2 <;> subst h2
    · conv => whnf
      exact fin0 rfl trivial
    · conv => whnf
      exact fin0 rfl trivial
    · conv => whnf
      exact fin0 rfl trivial
  · rw [h1]
    conv => whnf
    refine branch_of (fun q => ?_) (fun q => ?_)
    · exact absurd (of_decide_eq_true q) (by omega)
    conv => whnf
    refine branch_of (fun q => ?_) (fun q => ?_)
    · exact absurd (of_decide_eq_true q) (by omega)
    conv => whnf
    exact fin0 (by rw [decide_eq_false (show ¬ k = 8 by omega)]; rfl) trivial
theorem qfml_good (l : List Nod) (hl : l.length ≤ 1000000) (hb : ∀ o ∈ l, nodB o) : Good Tryz.prog 26 [.sl 5 (nodV l)] [] [.bool (fmlOk l)] [] := by
  refine good_of hP Tryz.func26 (by kernel_rfl) (lv := [0, 2, 3, 4, 5, 6, 7, 11, 21, 45, 62, 63, 84, 102, 137, 165]) (js := [100002]) ⟨rfl, rfl, rfl, rfl, rfl, rfl, _, rfl, ?_⟩
  have hll : (nodV l).length = l.length := List.length_map _
  generalize hU : fromsS l = U
  conv => whnf
  refine call0 (in9_good ((nodV l).length : Int) 1 40) ?_
  rw [hll]
  by_cases hc : 1 ≤ l.length ∧ l.length ≤ 40
  case neg =>
    rw [fmlOk_len hc, decide_eq_false (by omega)]
    conv => whnf
    exact fin0 rfl trivial
  rw [decide_eq_true (show (1 : Int) ≤ (l.length : Nat) ∧ ((l.length : Nat) : Int) ≤ 40 by omega)]
  conv => whnf
  refine ⟨l.length, ⟨by rw [hll], by rw [hll], by show l.length * 1 ≤ _; omega⟩, ?_⟩
  conv => whnf
  refine ⟨l.length, ⟨by rw [hll], by rw [hll], by show l.length * 1 ≤ _; omega⟩, ?_⟩
  conv => whnf
  refine ⟨by kernel_rfl, ?_⟩
  conv => whnf
  refine loop_of hP [0, 2, 3, 4, 5, 6, 7, 11, 21, 45, 62, 63, 84, 102, 137, 165] [100002] [0, 3, 4, 5] [78, 81] [] (fun m st => ∃ (k : Nat) (a : List (Nat × Nat)) (f g : Nat → Int), m = l.length - k ∧ k ≤ l.length ∧ a.length = k ∧ AccB a ∧ fromsGo a (l.drop k) = U ∧ (∀ p ∈ a, p.2 ≤ 12) ∧ (∀ (j : Nat) (p : Nat × Nat), a[j]? = some p → f j = p.1 ∧ g j = p.2) ∧
    st = ⟨[(0, .sl 5 (nodV l)), (3, .own 78 0), (4, .own 81 0), (5, .int .i64 k)], [(78, .arr 0 false 1 (arrI l.length f)), (81, .arr 0 false 1 (arrI l.length g))]⟩) l.length ?_ ?_
  · conv => whnf
    exact ⟨0, [], fun _ => 0, fun _ => 0, rfl, Nat.zero_le _, rfl, accB_nil, hU, fun p hp => (by cases hp), fun j p hj => (by simp at hj), by rw [← arrI_rep]; rfl⟩
  · rintro m st ⟨k, a, f, g, rfl, hk, hak, hB, hb3, h12, hfg, rfl⟩
    conv => whnf
    refine branch_of (fun h => ?_) (fun h => ?_)
    · have h := of_decide_eq_true h
      rw [hll] at h
      have hk' : k < l.length := by omega
      rw [fromsGo_step hk'] at hb3
      have hbk := hb _ (List.getElem_mem hk')
      have hrow := idxM (f := Nod.c) hk' rfl
      generalize hx : l[k] = x at *
      have hbr : decide (IntKind.i64.wrap ((x.a.n.length : Int) + ((trmV x.a.a).length : Nat)) = 0) = decide (x.a = zeroA) := by
        obtain ⟨b1, b2, b3⟩ := hbk
        rw [List.length_map, wr (by omega) (by omega), decide_eq_decide]
        constructor
        · intro h
          have h1 : x.a.n = [] := List.length_eq_zero_iff.1 (by omega)
          have h2 : x.a.a = [] := List.length_eq_zero_iff.1 (by omega)
          generalize x.a = y at *
          obtain ⟨n, a⟩ := y
          dsimp only at h1 h2
          subst h1; subst h2
          rfl
        · intro h; rw [h]; rfl
      conv => whnf
      refine ⟨_, hrow, ?_⟩
      conv => whnf
      rw [hbr]
      refine ⟨⟨⟩, ⟨by omega, by rw [arrI_len]; omega⟩, ?_⟩
      conv => whnf
      refine ⟨_, arrI_get f hk', ?_⟩
      conv => whnf
      refine ⟨⟨⟩, ⟨by omega, by rw [arrI_len]; omega⟩, ?_⟩
      conv => whnf
      refine ⟨_, arrI_get g hk', ?_⟩
      have hnone : nodS a x = none → fmlOk l = false := fun hp => by rw [hp] at hb3; exact fmlOk_none (hU.trans hb3.symm)
      have hfin : ∀ (p : Nat × Nat) (F G : Nat → Int), (∀ j, j ≠ k → F j = f j ∧ G j = g j) → F k = p.1 → G k = p.2 → ∀ (j : Nat) (q : Nat × Nat), (a ++ [p])[j]? = some q → F j = q.1 ∧ G j = q.2 := by
        intro p F G h1 h2 h3 j q hj
        by_cases e : j < k
        · rw [List.getElem?_append_left (by omega)] at hj
          obtain ⟨e1, e2⟩ := h1 j (by omega)
          rw [e1, e2]
          exact hfg j q hj
        · rw [List.getElem?_append_right (by omega), hak] at hj
          cases hq : j - k with
          | zero =>
            have : j = k := by omega
            subst this
            rw [hq] at hj
            simp only [List.getElem?_cons_zero, Option.some.injEq] at hj
            subst hj
            exact ⟨h2, h3⟩
          | succ n => rw [hq] at hj; simp at hj
      have hlast : ∀ {q : Nat × Nat}, a[k - 1]? = some q → 1 ≤ k → a.getLast? = some q := fun h _ => by rw [List.getLast?_eq_getElem?, hak]; exact h
      conv => whnf
      refine seq_of hP [0, 2, 3, 4, 5, 6, 7, 11, 21, 45, 62, 63, 84, 102, 137, 165] [100002] [0, 3, 4, 5] [78, 81] [] (fun st => ∃ (p : Nat × Nat) (F G : Nat → Int), nodS a x = some p ∧ (∀ (j : Nat) (q : Nat × Nat), (a ++ [p])[j]? = some q → F j = q.1 ∧ G j = q.2) ∧
        st = ⟨[(0, .sl 5 (nodV l)), (3, .own 78 0), (4, .own 81 0), (5, .int .i64 k)], [(78, .arr 0 false 1 (arrI l.length F)), (81, .arr 0 false 1 (arrI l.length G))]⟩) ?_ ?_
      · have hs1 : (arrI l.length f).set (Int.toNat (k : Int)) [V.int .i64 (k : Int)] = arrI l.length (updI f k k) := arrI_set _ _ _ _
        have hs2 : (arrI l.length g).set (Int.toNat (k : Int)) [V.int .i64 1] = arrI l.length (updI g k 1) := arrI_set _ _ _ _
        rw [hs1, hs2]
        conv => whnf
        refine branch_of (fun h1 => ?_) (fun h1 => ?_)
        · have h1 := of_decide_eq_true h1
          have ha : armsN x.k = 0 := by rw [h1]; rfl
          conv => whnf
          refine call0 (refAtom_good x.a ⟨hbk.1, hbk.2.2⟩) ?_
          have hno : nodS a x = if x.x = 0 ∧ x.y = 0 ∧ atomOk x.a = true then some (a.length, 1) else none := by unfold nodS; rw [if_pos ha]
          cases hq : atomOk x.a with
          | false =>
            have hF := hnone (by rw [hno, if_neg (fun q => by rw [hq] at q; cases q.2.2)])
            rw [hF]
            conv => whnf
            exact fin0 rfl trivial
          | true =>
          conv => whnf
          refine branch_of (fun h2 => ?_) (fun h2 => ?_)
          · have hF := hnone (by rw [hno, if_neg (fun q => by simp [q.1] at h2)])
            rw [hF]
            conv => whnf
            exact fin0 rfl trivial
          conv => whnf
          refine branch_of (fun h3 => ?_) (fun h3 => ?_)
          · have hF := hnone (by rw [hno, if_neg (fun q => by simp [q.2.1] at h3)])
            rw [hF]
            conv => whnf
            exact fin0 rfl trivial
          conv => whnf
          refine ⟨(k, 1), updI f k k, updI g k 1, ?_, ?_, ?_⟩
          · rw [hno, if_pos ⟨by simpa using h2, by simpa using h3, hq⟩, hak]
          · exact hfin _ _ _ (fun j hj => ⟨updI_other hj, updI_other hj⟩) (updI_same _ _ _) (updI_same _ _ _)
          · rfl
        · have h1 := of_decide_eq_false h1
          have ha0 : armsN x.k ≠ 0 := by rcases arms_cases x.k with ⟨q, q2⟩ | ⟨q, _⟩ | ⟨q, _⟩ | ⟨q, _⟩ <;> first | exact absurd q2 h1 | omega
          conv => whnf
          refine call0 (qone_good x.k) ?_
          by_cases ha : armsN x.k = 1
          · rw [decide_eq_true ha]
            have hw1 : IntKind.i64.wrap ((k : Int) - 1) = (k : Int) - 1 := wr (by omega) (by omega)
            conv => whnf
            refine branch_of (fun h2 => ?_) (fun h2 => ?_)
            · have hF := hnone (nod1_none ha (.inr (.inr (.inl (by simpa using h2)))))
              rw [hF]
              conv => whnf
              exact fin0 rfl trivial
            conv => whnf
            refine branch_of (fun h3 => ?_) (fun h3 => ?_)
            · have h3 := of_decide_eq_true h3
              have hF := hnone (nod1_none ha (.inr (.inr (.inr (List.length_eq_zero_iff.1 (show a.length = 0 by omega))))))
              rw [hF]
              conv => whnf
              exact fin0 rfl trivial
            have h3 := of_decide_eq_false h3
            conv => whnf
            refine branch_of (fun h4 => ?_) (fun h4 => ?_)
            · rw [hw1] at h4
              have hF := hnone (nod1_none ha (.inl (by rw [hak]; simpa using h4)))
              rw [hF]
              conv => whnf
              exact fin0 rfl trivial
            conv => whnf
            refine branch_of (fun h5 => ?_) (fun h5 => ?_)
            · have hF := hnone (nod1_none ha (.inr (.inl (by simpa using h5))))
              rw [hF]
              conv => whnf
              exact fin0 rfl trivial
            rw [hw1] at h4
            have h2 : x.a = zeroA := by simpa using h2
            have h4 : x.x = (k : Int) - 1 := by simpa using h4
            have h5 : x.y = 0 := by simpa using h5
            obtain ⟨q, hq⟩ : ∃ q, a[k - 1]? = some q := ⟨_, List.getElem?_eq_getElem (by omega)⟩
            have hfq := hfg _ _ hq
            have hq12 := h12 q (List.mem_of_getElem? hq)
            have hxn : x.x.toNat = k - 1 := by omega
            have hg1 : (arrI l.length (updI f k k))[x.x.toNat]? = some [.int .i64 (q.1 : Int)] := by rw [hxn, arrI_get _ (by omega), updI_other (by omega), hfq.1]
            have hg2 : (arrI l.length (updI g k 1))[x.x.toNat]? = some [.int .i64 (q.2 : Int)] := by rw [hxn, arrI_get _ (by omega), updI_other (by omega), hfq.2]
            have e1 := arrI_set l.length k (updI f k k) q.1
            have e2 := arrI_set l.length k (updI g k 1) (q.2 + 1 : Nat)
            conv => whnf
            refine ⟨⟨⟩, ⟨by omega, by rw [arrI_len]; omega⟩, ?_⟩
            conv => whnf
            refine ⟨_, hg1, ?_⟩
            conv => whnf
            refine ⟨⟨⟩, ⟨by omega, by rw [arrI_len]; omega⟩, ?_⟩
            conv => whnf
            refine ⟨_, hg2, ?_⟩
            conv => whnf
            refine ⟨⟨⟩, ⟨by omega, by rw [arrI_len]; omega⟩, ?_⟩
            conv => whnf
            refine ⟨_, arrI_get _ hk', ?_⟩
            conv => whnf
            refine ⟨⟨⟩, ⟨by omega, by rw [arrI_len]; omega⟩, ?_⟩
            conv => whnf
            refine ⟨_, arrI_get _ hk', ?_⟩
            conv => whnf
            refine ⟨by kernel_rfl, ?_⟩
            conv => whnf
            refine ⟨(q.1, q.2 + 1), updI (updI f k k) k q.1, updI (updI g k 1) k (q.2 + 1 : Nat), ?_, ?_, ?_⟩
            · exact nod1_some ha (hlast hq (by omega)) (by rw [hak]; exact h4) h5 h2
            · exact hfin _ _ _ (fun j hj => ⟨by rw [updI_other hj, updI_other hj], by rw [updI_other hj, updI_other hj]⟩) (updI_same _ _ _) (updI_same _ _ _)
            · rw [← e1, ← e2, wr (by omega) (by omega)]; rfl
          · rw [decide_eq_false ha]
            conv => whnf
            refine call0 (qtwo_good x.k) ?_
            by_cases ha2 : armsN x.k = 2
            · rw [decide_eq_true ha2]
              have hw1 : IntKind.i64.wrap ((k : Int) - 1) = (k : Int) - 1 := wr (by omega) (by omega)
              conv => whnf
              refine branch_of (fun h2 => ?_) (fun h2 => ?_)
              · have hF := hnone (nod2_none ha2 (.inl (by simpa using h2)))
                rw [hF]
                conv => whnf
                refine ⟨by kernel_rfl, ?_⟩
                conv => whnf
                exact fin0 rfl trivial
              conv => whnf
              refine branch_of (fun h3 => ?_) (fun h3 => ?_)
              · have h3 := of_decide_eq_true h3
                have hF := hnone (nod2_none ha2 (.inr (.inl (List.length_eq_zero_iff.1 (show a.length = 0 by omega)))))
                rw [hF]
                conv => whnf
                refine ⟨by kernel_rfl, ?_⟩
                conv => whnf
                exact fin0 rfl trivial
              have h3 := of_decide_eq_false h3
              conv => whnf
              refine branch_of (fun h4 => ?_) (fun h4 => ?_)
              · rw [hw1] at h4
                have hF := hnone (nod2_none ha2 (.inr (.inr (.inl (by rw [hak]; simpa using h4)))))
                rw [hF]
                conv => whnf
                refine ⟨by kernel_rfl, ?_⟩
                conv => whnf
                exact fin0 rfl trivial
              rw [hw1] at h4
              have h2 : x.a = zeroA := by simpa using h2
              have h4 : x.y = (k : Int) - 1 := by simpa using h4
              obtain ⟨q, hq⟩ : ∃ q, a[k - 1]? = some q := ⟨_, List.getElem?_eq_getElem (by omega)⟩
              have hfq := hfg _ _ hq
              have hq12 := h12 q (List.mem_of_getElem? hq)
              have hql := (hB _ _ hq).1
              have hyn : x.y.toNat = k - 1 := by omega
              have hg1 : (arrI l.length (updI f k k))[x.y.toNat]? = some [.int .i64 (q.1 : Int)] := by rw [hyn, arrI_get _ (by omega), updI_other (by omega), hfq.1]
              have hg2 : (arrI l.length (updI g k 1))[x.y.toNat]? = some [.int .i64 (q.2 : Int)] := by rw [hyn, arrI_get _ (by omega), updI_other (by omega), hfq.2]
              have hw2 : IntKind.i64.wrap ((q.1 : Int) - 1) = (q.1 : Int) - 1 := wr (by omega) (by omega)
              conv => whnf
              refine ⟨⟨⟩, ⟨by omega, by rw [arrI_len]; omega⟩, ?_⟩
              conv => whnf
              refine ⟨_, hg1, ?_⟩
              conv => whnf
              refine branch_of (fun h5 => ?_) (fun h5 => ?_)
              · have h5 := of_decide_eq_true h5
                have hF := hnone (nod2_none ha2 (.inr (.inr (.inr ⟨q, hlast hq (by omega), .inl (by omega)⟩))))
                rw [hF]
                conv => whnf
                refine ⟨by kernel_rfl, ?_⟩
                conv => whnf
                exact fin0 rfl trivial
              have h5 := of_decide_eq_false h5
              conv => whnf
              refine ⟨⟨⟩, ⟨by omega, by rw [arrI_len]; omega⟩, ?_⟩
              conv => whnf
              refine ⟨_, hg1, ?_⟩
              conv => whnf
              refine ⟨by kernel_rfl, ?_⟩
              conv => whnf
              refine branch_of (fun h6 => ?_) (fun h6 => ?_)
              · rw [hw2] at h6
                have hF := hnone (nod2_none ha2 (.inr (.inr (.inr ⟨q, hlast hq (by omega), .inr (by simpa using h6)⟩))))
                rw [hF]
                conv => whnf
                exact fin0 rfl trivial
              rw [hw2] at h6
              have h6 : x.x = (q.1 : Int) - 1 := by simpa using h6
              obtain ⟨u, hu⟩ : ∃ u, a[q.1 - 1]? = some u := ⟨_, List.getElem?_eq_getElem (by omega)⟩
              have hfu := hfg _ _ hu
              have hu12 := h12 u (List.mem_of_getElem? hu)
              have hxn : x.x.toNat = q.1 - 1 := by omega
              have hg3 : (arrI l.length (updI f k k))[x.x.toNat]? = some [.int .i64 (u.1 : Int)] := by rw [hxn, arrI_get _ (by omega), updI_other (by omega), hfu.1]
              have hg4 : (arrI l.length (updI g k 1))[x.x.toNat]? = some [.int .i64 (u.2 : Int)] := by rw [hxn, arrI_get _ (by omega), updI_other (by omega), hfu.2]
              have e1 := arrI_set l.length k (updI f k k) u.1
              have e2 := arrI_set l.length k (updI g k 1) (max u.2 q.2 + 1 : Nat)
              have hmx : IntKind.i64.wrap ((if (u.2 : Int) < (q.2 : Int) then (q.2 : Int) else (u.2 : Int)) + 1) = ((max u.2 q.2 + 1 : Nat) : Int) := by
                have : (if (u.2 : Int) < (q.2 : Int) then (q.2 : Int) else (u.2 : Int)) = ((max u.2 q.2 : Nat) : Int) := by split <;> omega
                rw [this, wr (by omega) (by omega)]; omega
              conv => whnf
              refine ⟨⟨⟩, ⟨by omega, by rw [arrI_len]; omega⟩, ?_⟩
              conv => whnf
              refine ⟨_, hg3, ?_⟩
              conv => whnf
              refine ⟨⟨⟩, ⟨by omega, by rw [arrI_len]; omega⟩, ?_⟩
              conv => whnf
              refine ⟨_, hg4, ?_⟩
              conv => whnf
              refine ⟨⟨⟩, ⟨by omega, by rw [arrI_len]; omega⟩, ?_⟩
              conv => whnf
              refine ⟨_, hg2, ?_⟩
              conv => whnf
              refine ⟨⟨⟩, ⟨by omega, by rw [arrI_len]; omega⟩, ?_⟩
              conv => whnf
              refine ⟨_, arrI_get _ hk', ?_⟩
              conv => whnf
              refine ⟨⟨⟩, ⟨by omega, by rw [arrI_len]; omega⟩, ?_⟩
              conv => whnf
              refine ⟨_, arrI_get _ hk', ?_⟩
              conv => whnf
              refine ⟨by kernel_rfl, ?_⟩
              conv => whnf
              refine ⟨(u.1, max u.2 q.2 + 1), updI (updI f k k) k u.1, updI (updI g k 1) k (max u.2 q.2 + 1 : Nat), ?_, ?_, ?_⟩
              · exact nod2_some ha2 (hlast hq (by omega)) hu (by rw [hak]; exact h4) (by omega) h6 h2
              · exact hfin _ _ _ (fun j hj => ⟨by rw [updI_other hj, updI_other hj], by rw [updI_other hj, updI_other hj]⟩) (updI_same _ _ _) (updI_same _ _ _)
              · rw [← e1, ← e2, ← hmx]; rfl
            · have hF := hnone (by unfold nodS; rw [if_neg (by omega), if_neg ha, if_neg ha2])
              rw [hF, decide_eq_false ha2]
              conv => whnf
              exact fin0 rfl trivial
      · rintro st ⟨p, F, G, hp, hFG, rfl⟩
        have hkp := hFG k p (by rw [List.getElem?_append_right (by omega), hak]; simp)
        rw [hp] at hb3
        dsimp only at hb3
        conv => whnf
        refine ⟨⟨⟩, ⟨by omega, by rw [arrI_len]; omega⟩, ?_⟩
        conv => whnf
        refine ⟨_, arrI_get G hk', ?_⟩
        have hkp2 : G (Int.toNat (k : Int)) = p.2 := hkp.2
        conv => whnf
        rw [hkp2]
        refine branch_of (fun h2 => ?_) (fun h2 => ?_)
        · have h2 := of_decide_eq_true h2
          have hF : fmlOk l = false := by
            cases hu : U with
            | none => exact fmlOk_none (hU.trans hu)
            | some b =>
              rw [hu] at hb3
              obtain ⟨_, t, ht⟩ := fromsGo_len hb3
              exact fmlOk_deep (hU.trans hu) (p := p) (by rw [ht]; simp) (by omega)
          rw [hF]
          conv => whnf
          exact fin0 rfl trivial
        · have h2 := of_decide_eq_false h2
          conv => whnf
          refine ⟨l.length - (k + 1), by omega, k + 1, a ++ [p], F, G, rfl, by omega, by simp [hak], accB_snoc hB hp, hb3, fun q hq => ?_, hFG, ?_⟩
          · rcases List.mem_append.1 hq with hq | hq
            · exact h12 q hq
            · simp at hq; subst hq; omega
          · rw [wr (by omega) (by omega)]; rfl
    · have h := of_decide_eq_false h
      rw [hll] at h
      have hkl : k = l.length := by omega
      subst hkl
      rw [List.drop_length] at hb3
      have hU2 : fromsS l = some a := hU.trans hb3.symm
      obtain ⟨q, hq⟩ : ∃ q, a[l.length - 1]? = some q := ⟨_, List.getElem?_eq_getElem (by omega)⟩
      have hfq := hfg _ _ hq
      have hq12 := h12 q (List.mem_of_getElem? hq)
      have hw1 : IntKind.i64.wrap (((nodV l).length : Int) - 1) = ((l.length - 1 : Nat) : Int) := by rw [hll, wr (by omega) (by omega)]; omega
      have hg1 : (arrI l.length f)[(IntKind.i64.wrap (((nodV l).length : Int) - 1)).toNat]? = some [.int .i64 (q.1 : Int)] := by rw [hw1, Int.toNat_natCast, arrI_get _ (by omega), hfq.1]
      rw [fmlOk_iff hc.1 hc.2 hU2 hq hq12]
      conv => whnf
      refine ⟨⟨⟩, ⟨by rw [hw1]; omega, by rw [hw1, arrI_len]; omega⟩, ?_⟩
      conv => whnf
      refine ⟨_, hg1, ?_⟩
      conv => whnf
      exact fin0 rfl trivial
end Go.PV
namespace Go.PV
open Go Go.Proofs
set_option maxRecDepth 100000
theorem twinAtom_good (f : Atm) (hl : f.a.length ≤ 1000000) : Good Tryz.prog 81 [.agg f.c] [] [.agg f.c] [] := by
  obtain ⟨n, l⟩ := f
  dsimp only at hl
  refine good_of hP Tryz.func81 (by kernel_rfl) (lv := [0, 1, 2, 3]) (js := []) ⟨rfl, rfl, rfl, rfl, rfl, rfl, _, rfl, ?_⟩
  conv => whnf
  refine ⟨⟨⟩, by rw [List.length_map]; dsimp only; omega, ?_⟩
  conv => whnf
  exact fin0 rfl trivial
end Go.PV
namespace Go.PV
open Go Go.Proofs
set_option maxRecDepth 100000
theorem twinN_own (l : List Nod) (hl : l.length ≤ 1000000) (hb : ∀ o ∈ l, nodB o) : Good Tryz.prog 28 [.sl 5 (nodV l)] [] [.own 0 0] [.arr 0 false 5 (nodV l)] := by
  refine good_of hP Tryz.func28 (by kernel_rfl) (lv := [0, 2, 3, 4, 5, 9]) (js := []) ⟨rfl, rfl, rfl, rfl, rfl, rfl, _, rfl, ?_⟩
  conv => whnf
  refine loop_of hP [0, 2, 3, 4, 5, 9] [] [0, 2, 3, 4] [67] [.slot 3 5] (fun m st => ∃ k : Nat, m = l.length - k ∧ k ≤ l.length ∧ st = ⟨[(0, .sl 5 (nodV l)), (2, .nil), (3, .own 67 0), (4, .int .i64 k)], [(67, .arr 0 false 5 (nodV (l.take k)))]⟩) l.length ?_ ?_
  · conv => whnf
    exact ⟨0, rfl, Nat.zero_le _, rfl⟩
  · rintro m st ⟨k, rfl, hk, rfl⟩
    conv => whnf
    refine branch_of (fun h => ?_) (fun h => ?_)
    · have h := of_decide_eq_true h
      rw [List.length_map] at h
      have hk' : k < l.length := by omega
      obtain ⟨b1, b2, b3⟩ := hb _ (List.getElem_mem hk')
      conv => whnf
      refine ⟨Nod.c l[k], idxM hk' rfl, ?_⟩
      conv => whnf
      refine call0 (twinAtom_good l[k].a b2) ?_
      conv => whnf
      refine ⟨⟨⟩, by dsimp only; simp only [List.length_map, List.length_take, List.length_cons, List.length_nil]; omega, ?_⟩
      conv => whnf
      refine ⟨l.length - (k + 1), by omega, k + 1, rfl, by omega, ?_⟩
      rw [← List.take_append_getElem hk', show nodV (l.take k ++ [l[k]]) = nodV (l.take k) ++ [l[k].c] from List.map_append, wr (by omega) (by omega)]
      rfl
    · have h := of_decide_eq_false h
      rw [List.length_map] at h
      rw [List.take_of_length_le (by omega)]
      conv => whnf
      refine ⟨[(67, 0)], rfl, ?_⟩
      conv => whnf
      exact ⟨⟨⟩, rfl, trivial⟩
end Go.PV
namespace Go.PV
open Go
/-! a node's own nodes -/
def shN (m : Int) (o : Nod) : Nod := ⟨o.k, o.a, if o.k = 1 then o.x else o.x - m, if o.k = 3 ∨ o.k = 4 ∨ o.k = 8 then o.y - m else o.y⟩
namespace FT
theorem sh : ∀ {T : FT}, T.ok = true → ∀ (n m : Nat), (T.nodes (n + m)).map (shN m) = T.nodes n
  | .at_ a, _, n, m => by simp [nodes, shN]
  | .one k t, h, n, m => by
    simp only [ok, Bool.and_eq_true, decide_eq_true_eq] at h
    simp only [nodes, List.map_append, sh h.2, List.map_cons, List.map_nil, shN]
    have e : ((n + m + t.size : Nat) : Int) - 1 - (m : Int) = ((n + t.size : Nat) : Int) - 1 := by omega
    rcases arms_cases k with ⟨h1, _⟩ | ⟨_, h2⟩ | ⟨h1, _⟩ | ⟨h1, _⟩
    · omega
    · rw [if_neg (by omega), if_neg (by omega), e]
    · omega
    · omega
  | .two k s t, h, n, m => by
    simp only [ok, Bool.and_eq_true, decide_eq_true_eq] at h
    have e0 : n + m + s.size = n + s.size + m := by omega
    simp only [nodes, List.map_append, sh h.2.1, List.map_cons, List.map_nil, shN]
    rw [e0, sh h.2.2]
    have e1 : ((n + s.size + m : Nat) : Int) - 1 - (m : Int) = ((n + s.size : Nat) : Int) - 1 := by omega
    have e2 : ((n + s.size + m + t.size : Nat) : Int) - 1 - (m : Int) = ((n + s.size + t.size : Nat) : Int) - 1 := by omega
    rcases arms_cases k with ⟨h1, _⟩ | ⟨h1, _⟩ | ⟨_, h2⟩ | ⟨h1, _⟩
    · omega
    · omega
    · rw [if_neg (by omega), if_pos h2, e1, e2]
    · omega
theorem top_sub {T : FT} (h : T.ok = true) (n : Nat) : ∃ (S : FT) (k : Nat), S.ok = true ∧ (T.acc n)[T.size - 1]? = some (n + k, S.deep) ∧ k + S.size = T.size - 1 + 1 ∧ ((T.nodes n).drop k).take S.size = S.nodes (n + k) ∧ S.deep ≤ T.deep := by
  obtain ⟨l, hl⟩ := T.acc_last n
  have h1 := T.acc_len n
  have h2 := T.size_pos
  rw [hl, List.length_append, List.length_cons, List.length_nil] at h1
  refine ⟨T, 0, h, ?_, by omega, ?_, Nat.le_refl _⟩
  · rw [hl, List.getElem?_append_right (by omega), show T.size - 1 - l.length = 0 by omega]
    rfl
  · rw [List.drop_zero, List.take_of_length_le (by rw [T.nodes_len]; exact Nat.le_refl _)]
    rfl
theorem sub : ∀ {T : FT}, T.ok = true → ∀ (n i : Nat), i < T.size → ∃ (S : FT) (k : Nat), S.ok = true ∧ (T.acc n)[i]? = some (n + k, S.deep) ∧ k + S.size = i + 1 ∧ ((T.nodes n).drop k).take S.size = S.nodes (n + k) ∧ S.deep ≤ T.deep
  | .at_ a, h, n, i, hi => by
    have : i = 0 := by simp only [size] at hi; omega
    subst this
    exact top_sub h n
  | .one k t, h, n, i, hi => by
    by_cases hi2 : i = t.size
    · subst hi2; exact top_sub h n
    · simp only [size] at hi
      have hlt : i < t.size := by omega
      have h' := h
      simp only [ok, Bool.and_eq_true, decide_eq_true_eq] at h'
      obtain ⟨S, j, h1, h2, h3, h4, h5⟩ := sub h'.2 n i hlt
      refine ⟨S, j, h1, ?_, h3, ?_, by simp only [deep]; omega⟩
      · simp only [acc]
        rw [List.getElem?_append_left (by rw [t.acc_len]; exact hlt)]
        exact h2
      · simp only [nodes]
        rw [List.drop_append_of_le_length (by rw [t.nodes_len]; omega), List.take_append_of_le_length (by rw [List.length_drop, t.nodes_len]; omega)]
        exact h4
  | .two k s t, h, n, i, hi => by
    have h' := h
    simp only [ok, Bool.and_eq_true, decide_eq_true_eq] at h'
    by_cases hi2 : i = s.size + t.size
    · subst hi2; exact top_sub h n
    · simp only [size] at hi
      by_cases hlt : i < s.size
      · obtain ⟨S, j, h1, h2, h3, h4, h5⟩ := sub h'.2.1 n i hlt
        refine ⟨S, j, h1, ?_, h3, ?_, by simp only [deep]; omega⟩
        · simp only [acc]
          rw [List.getElem?_append_left (by rw [List.length_append, s.acc_len]; omega), List.getElem?_append_left (by rw [s.acc_len]; exact hlt)]
          exact h2
        · simp only [nodes]
          rw [List.append_assoc, List.drop_append_of_le_length (by rw [s.nodes_len]; omega), List.take_append_of_le_length (by rw [List.length_drop, s.nodes_len]; omega)]
          exact h4
      · obtain ⟨S, j, h1, h2, h3, h4, h5⟩ := sub h'.2.2 (n + s.size) (i - s.size) (by omega)
        refine ⟨S, s.size + j, h1, ?_, by omega, ?_, by simp only [deep]; omega⟩
        · simp only [acc]
          rw [List.getElem?_append_left (by rw [List.length_append, s.acc_len, t.acc_len]; omega), List.getElem?_append_right (by rw [s.acc_len]; omega), s.acc_len, h2]
          rw [show n + s.size + j = n + (s.size + j) by omega]
        · simp only [nodes]
          rw [List.append_assoc, List.drop_append, s.nodes_len, List.drop_eq_nil_of_le (by rw [s.nodes_len]; omega), List.nil_append, show s.size + j - s.size = j by omega, List.drop_append_of_le_length (by rw [t.nodes_len]; omega), List.take_append_of_le_length (by rw [List.length_drop, t.nodes_len]; omega), h4, show n + s.size + j = n + (s.size + j) by omega]
theorem fml_iff {T : FT} (h : T.ok = true) : fmlOk (T.nodes 0) = decide (T.size ≤ 40 ∧ T.deep ≤ 12) := by
  by_cases hc : T.size ≤ 40 ∧ T.deep ≤ 12
  · rw [tree_fml h hc.1 hc.2, decide_eq_true hc]
  · rw [decide_eq_false hc]
    have e : fromsS (T.nodes 0) = some (T.acc 0) := FT.froms h []
    obtain ⟨l, hl⟩ := T.acc_last 0
    unfold fmlOk
    rw [e, T.nodes_len]
    have : (T.acc 0).getLast? = some (0, T.deep) := by rw [hl, List.getLast?_concat]
    simp only [this, Bool.and_eq_false_iff, decide_eq_false_iff_not]
    have := T.size_pos
    by_cases h1 : T.size ≤ 40
    · right; intro q; exact hc ⟨h1, q.2⟩
    · left; omega
end FT
/-- a right formula's place: its own nodes -/
theorem fml_sub {l : List Nod} (h : fmlOk l = true) {i : Nat} (hi : i < l.length) : ∃ (S : FT) (k : Nat), S.ok = true ∧ fromN l i = k ∧ k + S.size = i + 1 ∧ S.size ≤ 40 ∧ S.deep ≤ 12 ∧ (((l.drop k).take S.size).map (shN k)) = S.nodes 0 := by
  obtain ⟨T, h1, rfl, h3, h4⟩ := fml_tree h
  rw [T.nodes_len] at hi
  obtain ⟨S, k, s1, s2, s3, s4, s5⟩ := FT.sub h1 0 i hi
  refine ⟨S, k, s1, ?_, s3, by omega, by omega, ?_⟩
  · have e : fromsS (T.nodes 0) = some (T.acc 0) := FT.froms h1 []
    unfold fromN
    rw [h, e]
    have hd : decide ((0 : Int) ≤ i ∧ (i : Int) < ((T.nodes 0).length : Nat)) = true := by rw [T.nodes_len]; exact decide_eq_true ⟨by omega, by omega⟩
    rw [hd]
    simp only [Bool.and_self, if_true, Int.toNat_natCast, s2]
    simp
  · rw [s4]
    have := FT.sh s1 0 k
    rwa [Nat.zero_add] at this ⊢
/-- the greatest depth -/
def mxD : List (Nat × Nat) → Nat
  | [] => 0
  | p :: r => max p.2 (mxD r)
theorem mxD_snoc (p : Nat × Nat) : ∀ l : List (Nat × Nat), mxD (l ++ [p]) = max (mxD l) p.2
  | [] => by simp [mxD]
  | q :: r => by simp only [List.cons_append, mxD, mxD_snoc p r]; omega
theorem mxD_le {d : Nat} : ∀ {l : List (Nat × Nat)}, (∀ p ∈ l, p.2 ≤ d) → mxD l ≤ d
  | [], _ => Nat.zero_le _
  | q :: r, h => by
    have h1 := h q List.mem_cons_self
    have h2 : mxD r ≤ d := mxD_le fun p hp => h p (List.mem_cons_of_mem _ hp)
    simp only [mxD]; omega
theorem FT.mx (T : FT) : mxD (T.acc 0) = T.deep := by
  obtain ⟨l, hl⟩ := T.acc_last 0
  have h1 : mxD (T.acc 0) ≤ T.deep := mxD_le fun p hp => (T.acc_deep 0 p hp).1
  have h2 : T.deep ≤ mxD (T.acc 0) := by rw [hl, mxD_snoc]; omega
  omega
end Go.PV
namespace Go.PV
open Go Go.Proofs
set_option maxRecDepth 100000
theorem mid_get {α : Type} {L R : List α} {r : α} {j : Nat} (h : L.length = j) : (L ++ r :: R)[Int.toNat (j : Int)]? = some r := by
  rw [Int.toNat_natCast, List.getElem?_append_right (by omega), h, Nat.sub_self]; rfl
theorem mid_set {α : Type} {L R : List α} {r : α} {j : Nat} (h : L.length = j) (r' : α) : (L ++ r :: R).set (Int.toNat (j : Int)) r' = L ++ r' :: R := by
  rw [Int.toNat_natCast, List.set_append_right _ _ (by omega), h, Nat.sub_self]; rfl
theorem two12_good (k : Int) : Good Tryz.prog 84 [.int .i64 k] [] [.int .i64 (if armsN k = 2 then 1 else 0)] [] := by
  refine good_of hP Tryz.func84 (by kernel_rfl) (lv := [0, 2, 12]) (js := []) ⟨rfl, rfl, rfl, rfl, rfl, rfl, _, rfl, ?_⟩
  rcases arms_cases k with ⟨h1, h2⟩ | ⟨h1, h2⟩ | ⟨h1, h2⟩ | ⟨h1, h2⟩
  · subst h2
    conv => whnf
    exact fin0 rfl trivial
  · rw [h1]
    rcases h2 with h2 | h2 | h2 | h2 <;> subst h2
    · conv => whnf
      exact fin0 rfl trivial
    · conv => whnf
      exact fin0 rfl trivial
    · conv => whnf
      exact fin0 rfl trivial
    · conv => whnf
      exact fin0 rfl trivial
  · rw [h1]
    rcases h2 with h2 | h2 | h2 <;> subst h2
    · conv => whnf
      exact fin0 rfl trivial
    · conv => whnf
      exact fin0 rfl trivial
    · conv => whnf
      exact fin0 rfl trivial
  · rw [h1]
    conv => whnf
    refine branch_of (fun q => ?_) (fun q => ?_)
    · exact absurd (of_decide_eq_true q) (by omega)
    conv => whnf
    refine branch_of (fun q => ?_) (fun q => ?_)
    · exact absurd (of_decide_eq_true q) (by omega)
    conv => whnf
    refine branch_of (fun q => ?_) (fun q => ?_)
    · exact absurd (of_decide_eq_true q) (by omega)
    conv => whnf
    exact fin0 rfl trivial
theorem deep_good (l : List Nod) (hl : l.length ≤ 100) (b : List (Nat × Nat)) (hU : fromsS l = some b) : Good Tryz.prog 32 [.sl 5 (nodV l)] [] [.int .i64 (mxD b)] [] := by
  refine good_of hP Tryz.func32 (by kernel_rfl) (lv := [0, 2, 3, 4, 5, 12, 23]) (js := []) ⟨rfl, rfl, rfl, rfl, rfl, rfl, _, rfl, ?_⟩
  have hll : (nodV l).length = l.length := List.length_map _
  have hbl : b.length = l.length := by have := (fromsGo_len hU).1; simpa using this
  have hbB : AccB b := fromsGo_B accB_nil hU
  conv => whnf
  refine ⟨l.length, ⟨by rw [hll], by rw [hll], by show l.length * 1 ≤ _; omega⟩, ?_⟩
  conv => whnf
  refine loop_of hP [0, 2, 3, 4, 5, 12, 23] [] [0, 3, 4, 5] [72] [] (fun m st => ∃ (k : Nat) (f : Nat → Int), m = l.length - k ∧ k ≤ l.length ∧ (∀ (j : Nat) (p : Nat × Nat), j < k → b[j]? = some p → f j = p.2) ∧
    st = ⟨[(0, .sl 5 (nodV l)), (3, .own 72 0), (4, .int .i64 (mxD (b.take k))), (5, .int .i64 k)], [(72, .arr 0 false 1 (arrI l.length f))]⟩) l.length ?_ ?_
  · conv => whnf
    exact ⟨0, fun _ => 0, rfl, Nat.zero_le _, fun j p hj => by omega, by rw [← arrI_rep]; rfl⟩
  · rintro m st ⟨k, f, rfl, hk, hf, rfl⟩
    conv => whnf
    refine branch_of (fun h => ?_) (fun h => ?_)
    · have h := of_decide_eq_true h
      rw [hll] at h
      have hk' : k < l.length := by omega
      have hrow := idxM (f := Nod.c) hk' rfl
      obtain ⟨u, hu, hbu, hul, huB⟩ := froms_at hU hk'
      have hcs := nod_cases huB hu
      rw [hul] at hcs
      have htk : ∀ t, t < k → (b.take k)[t]? = b[t]? := fun t ht => by rw [List.getElem?_take, if_pos ht]
      have hu2 := (hbB _ _ hbu).2
      have hmx : mxD (b.take (k + 1)) = max (mxD (b.take k)) u.2 := by
        have e : b.take (k + 1) = b.take k ++ [u] := by
          rw [List.take_add_one, hbu]; rfl
        rw [e, mxD_snoc]
      have hmm : (if (mxD (b.take k) : Int) < (u.2 : Int) then (u.2 : Int) else (mxD (b.take k) : Int)) = ((mxD (b.take (k + 1)) : Nat) : Int) := by rw [hmx]; split <;> omega
      have hw : IntKind.i64.wrap ((k : Int) + 1) = ((k + 1 : Nat) : Int) := by rw [wr (by omega) (by omega)]; rfl
      have hs1 : (arrI l.length f).set (Int.toNat (k : Int)) [V.int .i64 1] = arrI l.length (updI f k 1) := arrI_set _ _ _ _
      generalize hx : l[k] = x at *
      conv => whnf
      refine ⟨⟨⟩, ⟨by omega, by rw [arrI_len]; omega⟩, ?_⟩
      conv => whnf
      refine ⟨_, arrI_get f hk', ?_⟩
      conv => whnf
      rw [hs1]
      refine ⟨_, hrow, ?_⟩
      conv => whnf
      rcases hcs with ⟨ha, h1, h2, h3, h4⟩ | ⟨ha, h1, h2, h3, h4, v, h5, h6⟩ | ⟨ha, h1, h2, h3, v, s, h4, h5, h6, h7, h8, h9⟩
      · have hk1 : x.k = 1 := by rcases arms_cases x.k with q | q | q | q <;> omega
        have hd : decide (x.k = 1) = true := decide_eq_true hk1
        rw [hd]
        have hg : (arrI l.length (updI f k 1))[Int.toNat (k : Int)]? = some [.int .i64 ((u.2 : Nat) : Int)] := by rw [Int.toNat_natCast, arrI_get _ hk', updI_same, h4]; rfl
        conv => whnf
        refine ⟨⟨⟩, ⟨by omega, by rw [arrI_len]; omega⟩, ?_⟩
        conv => whnf
        refine ⟨_, hg, ?_⟩
        conv => whnf
        rw [hmm, hw]
        refine ⟨l.length - (k + 1), by omega, k + 1, updI f k 1, rfl, by omega, fun j p hj hp => ?_, rfl⟩
        by_cases e : j = k
        · subst e; rw [hbu] at hp; cases hp; rw [updI_same, h4]; rfl
        · rw [updI_other e]; exact hf j p (by omega) hp
      · have hk1 : x.k ≠ 1 := by rintro q; rw [q] at ha; cases ha
        have hd : decide (x.k = 1) = false := decide_eq_false hk1
        rw [htk _ (by omega)] at h5
        have hg1 : (arrI l.length (updI f k 1))[x.x.toNat]? = some [.int .i64 ((v.2 : Nat) : Int)] := by rw [show x.x.toNat = k - 1 by omega, arrI_get _ (by omega), updI_other (by omega), hf _ _ (by omega) h5]
        have hv2 := (hbB _ _ h5).2
        rw [hd]
        obtain ⟨p0, hp0⟩ : ∃ p0, b[0]? = some p0 := ⟨_, List.getElem?_eq_getElem (by omega)⟩
        have hg0 : (arrI l.length (updI f k 1))[x.y.toNat]? = some [.int .i64 ((p0.2 : Nat) : Int)] := by rw [h3, show (0 : Int).toNat = 0 from rfl, arrI_get _ (by omega), updI_other (by omega), hf _ _ (by omega) hp0]
        have hmul : IntKind.i64.wrap (((p0.2 : Nat) : Int) * 0) = 0 := by rw [Int.mul_zero]; rfl
        have hval : IntKind.i64.wrap (1 + (if ((v.2 : Nat) : Int) < 0 then 0 else ((v.2 : Nat) : Int))) = ((u.2 : Nat) : Int) := by rw [if_neg (by omega), wr (by omega) (by omega), h6]; omega
        have hset := arrI_set l.length k (updI f k 1) ((u.2 : Nat) : Int)
        have hg : (arrI l.length (updI (updI f k 1) k ((u.2 : Nat) : Int)))[Int.toNat (k : Int)]? = some [.int .i64 ((u.2 : Nat) : Int)] := by rw [Int.toNat_natCast, arrI_get _ hk', updI_same]
        have hset2 : (arrI l.length (updI f k 1)).set (Int.toNat (k : Int)) [.int .i64 ((u.2 : Nat) : Int)] = arrI l.length (updI (updI f k 1) k ((u.2 : Nat) : Int)) := hset
        conv => whnf
        refine ⟨_, hrow, ?_⟩
        conv => whnf
        refine ⟨⟨⟩, ⟨by omega, by rw [arrI_len]; omega⟩, ?_⟩
        conv => whnf
        refine ⟨_, hg1, ?_⟩
        conv => whnf
        refine ⟨_, hrow, ?_⟩
        conv => whnf
        refine ⟨⟨⟩, ⟨by omega, by rw [arrI_len]; omega⟩, ?_⟩
        conv => whnf
        refine ⟨_, hg0, ?_⟩
        conv => whnf
        refine ⟨_, hrow, ?_⟩
        conv => whnf
        refine call0 (two12_good x.k) ?_
        rw [if_neg (by omega : ¬ armsN x.k = 2)]
        conv => whnf
        rw [hmul, hval]
        refine ⟨⟨⟩, ⟨by omega, by rw [arrI_len]; omega⟩, ?_⟩
        conv => whnf
        refine ⟨_, arrI_get _ hk', ?_⟩
        conv => whnf
        refine ⟨by kernel_rfl, ?_⟩
        conv => whnf
        rw [hset2]
        refine ⟨⟨⟩, ⟨by omega, by rw [arrI_len]; omega⟩, ?_⟩
        conv => whnf
        refine ⟨_, hg, ?_⟩
        conv => whnf
        rw [hmm, hw]
        refine ⟨l.length - (k + 1), by omega, k + 1, updI (updI f k 1) k ((u.2 : Nat) : Int), rfl, by omega, fun j p hj hp => ?_, rfl⟩
        by_cases e : j = k
        · subst e; rw [hbu] at hp; cases hp; rw [updI_same]
        · rw [updI_other e, updI_other e]; exact hf j p (by omega) hp
      · have hk1 : x.k ≠ 1 := by rintro q; rw [q] at ha; cases ha
        have hd : decide (x.k = 1) = false := decide_eq_false hk1
        rw [htk _ (by omega)] at h4 h8
        have hg1 : (arrI l.length (updI f k 1))[x.x.toNat]? = some [.int .i64 ((s.2 : Nat) : Int)] := by rw [show x.x.toNat = v.1 - 1 by omega, arrI_get _ (by omega), updI_other (by omega), hf _ _ (by omega) h8]
        have hg0 : (arrI l.length (updI f k 1))[x.y.toNat]? = some [.int .i64 ((v.2 : Nat) : Int)] := by rw [show x.y.toNat = k - 1 by omega, arrI_get _ (by omega), updI_other (by omega), hf _ _ (by omega) h4]
        have hv2 := (hbB _ _ h4).2
        have hv3 := (hbB _ _ h8).2
        rw [hd]
        have hmul : IntKind.i64.wrap (((v.2 : Nat) : Int) * 1) = ((v.2 : Nat) : Int) := by rw [Int.mul_one, wr (by omega) (by omega)]
        have hval : IntKind.i64.wrap (1 + (if ((s.2 : Nat) : Int) < ((v.2 : Nat) : Int) then ((v.2 : Nat) : Int) else ((s.2 : Nat) : Int))) = ((u.2 : Nat) : Int) := by
          have : (if ((s.2 : Nat) : Int) < ((v.2 : Nat) : Int) then ((v.2 : Nat) : Int) else ((s.2 : Nat) : Int)) = ((max s.2 v.2 : Nat) : Int) := by split <;> omega
          rw [this, wr (by omega) (by omega), h9]
          show 1 + ((max s.2 v.2 : Nat) : Int) = ((max s.2 v.2 + 1 : Nat) : Int)
          omega
        have hset := arrI_set l.length k (updI f k 1) ((u.2 : Nat) : Int)
        have hg : (arrI l.length (updI (updI f k 1) k ((u.2 : Nat) : Int)))[Int.toNat (k : Int)]? = some [.int .i64 ((u.2 : Nat) : Int)] := by rw [Int.toNat_natCast, arrI_get _ hk', updI_same]
        have hset2 : (arrI l.length (updI f k 1)).set (Int.toNat (k : Int)) [.int .i64 ((u.2 : Nat) : Int)] = arrI l.length (updI (updI f k 1) k ((u.2 : Nat) : Int)) := hset
        conv => whnf
        refine ⟨_, hrow, ?_⟩
        conv => whnf
        refine ⟨⟨⟩, ⟨by omega, by rw [arrI_len]; omega⟩, ?_⟩
        conv => whnf
        refine ⟨_, hg1, ?_⟩
        conv => whnf
        refine ⟨_, hrow, ?_⟩
        conv => whnf
        refine ⟨⟨⟩, ⟨by omega, by rw [arrI_len]; omega⟩, ?_⟩
        conv => whnf
        refine ⟨_, hg0, ?_⟩
        conv => whnf
        refine ⟨_, hrow, ?_⟩
        conv => whnf
        refine call0 (two12_good x.k) ?_
        rw [if_pos ha]
        conv => whnf
        rw [hmul, hval]
        refine ⟨⟨⟩, ⟨by omega, by rw [arrI_len]; omega⟩, ?_⟩
        conv => whnf
        refine ⟨_, arrI_get _ hk', ?_⟩
        conv => whnf
        refine ⟨by kernel_rfl, ?_⟩
        conv => whnf
        rw [hset2]
        refine ⟨⟨⟩, ⟨by omega, by rw [arrI_len]; omega⟩, ?_⟩
        conv => whnf
        refine ⟨_, hg, ?_⟩
        conv => whnf
        rw [hmm, hw]
        refine ⟨l.length - (k + 1), by omega, k + 1, updI (updI f k 1) k ((u.2 : Nat) : Int), rfl, by omega, fun j p hj hp => ?_, rfl⟩
        by_cases e : j = k
        · subst e; rw [hbu] at hp; cases hp; rw [updI_same]
        · rw [updI_other e, updI_other e]; exact hf j p (by omega) hp
    · have h := of_decide_eq_false h
      rw [hll] at h
      rw [List.take_of_length_le (by omega)]
      conv => whnf
      exact fin0 rfl trivial
def kN (j : Nat) : Int := if j = 0 then 2 else if j = 1 then 5 else if j = 2 then 6 else 7
theorem formulaParts_good (l : List Nod) (at_ kd : Int) {q1 : Prop} (_ : q1) {q2 : Nod → Prop} (_ : ∀ v ∈ l, q2 v) (_ : (Lit.int .i64 at_).wf = true) (_ : (Lit.int .i64 kd).wf = true) : Good Tryz.prog 7 [.sl 5 (nodV l), .int .i64 at_, .int .i64 kd] [] [.bool true] [] := by
  refine good_of hP Tryz.func7 (by kernel_rfl) (lv := [0, 1, 2, 6, 7, 8, 9, 10, 11, 12, 13, 14, 15, 22, 39, 49, 57, 90, 104, 132, 139]) (js := [200017, 200018]) ⟨rfl, rfl, rfl, rfl, rfl, rfl, _, rfl, ?_⟩
  have hll : (nodV l).length = l.length := List.length_map _
  conv => whnf
  refine call0 (heavyN_good l) ?_
  cases ha : nodsH l with
  | true =>
    conv => whnf
    exact fin0 rfl trivial
  | false =>
  obtain ⟨n1, n2⟩ := nodsH_B ha
  clear ha
  conv => whnf
  refine call0 (qfml_good l (by omega) n2) ?_
  cases hk : fmlOk l with
  | false =>
    conv => whnf
    exact fin0 rfl trivial
  | true =>
  obtain ⟨f1, f2, b, hU⟩ := fmlOk_froms hk
  have hwl : IntKind.u64.wrap ((nodV l).length : Int) = (l.length : Int) := by rw [wru, hll]; omega
  obtain ⟨i, hi, hwi⟩ := modk (m := (l.length : Int)) (by omega) (by omega) at_
  obtain ⟨jd, hjd, hwj⟩ := modk (m := 4) (by omega) (by omega) kd
  have hi : i < l.length := by have : ((i : Nat) : Int) < (l.length : Nat) := hi; omega
  have hjd : jd < 4 := by have : ((jd : Nat) : Int) < 4 := hjd; omega
  obtain ⟨S, k, s1, s2, s3, s4, s5, s6⟩ := fml_sub hk hi
  have hsz := S.size_pos
  have hfr := ffrom_good l i (by omega) n2
  rw [s2] at hfr
  conv => whnf
  rw [hwl]
  refine ⟨⟨⟩, by show ((l.length : Nat) : Int) ≠ 0; omega, ?_⟩
  conv => whnf
  rw [hwi]
  refine call0 (hfr) ?_
  conv => whnf
  refine branch_of (fun h => ?_) (fun h => ?_)
  · exact absurd (of_decide_eq_true h) (by omega)
  have hw1 : IntKind.i64.wrap ((i : Int) + 1) = ((i + 1 : Nat) : Int) := by rw [wr (by omega) (by omega)]; rfl
  conv => whnf
  rw [hw1]
  refine ⟨⟨⟩, ⟨by omega, by omega, by rw [hll]; omega⟩, ?_⟩
  generalize hpt : (l.drop k).take S.size = pt at s6
  have hptl : pt.length = S.size := by rw [← hpt, List.length_take, List.length_drop]; omega
  have hptm : ∀ o ∈ pt, o ∈ l := fun o ho => by rw [← hpt] at ho; exact List.mem_of_mem_drop (List.mem_of_mem_take ho)
  have hpart : List.drop (Int.toNat (k : Int)) (List.take (Int.toNat ((i + 1 : Nat) : Int)) (nodV l)) = nodV pt := by
    rw [Int.toNat_natCast, Int.toNat_natCast, List.drop_take, show i + 1 - k = S.size by omega, ← hpt]
    simp only [List.map_take, List.map_drop]
  have hptB : ∀ o ∈ pt, nodB o := fun o ho => n2 o (hptm o ho)
  have hpv : ∀ (j : Nat) (h : j < pt.length), (pt[j].k = 1) ∨ ((pt[j].k = 2 ∨ pt[j].k = 5 ∨ pt[j].k = 6 ∨ pt[j].k = 7) ∧ 0 ≤ pt[j].x ∧ pt[j].x ≤ 100) ∨ ((pt[j].k = 3 ∨ pt[j].k = 4 ∨ pt[j].k = 8) ∧ 0 ≤ pt[j].x ∧ pt[j].x ≤ 100 ∧ 0 ≤ pt[j].y ∧ pt[j].y ≤ 100) := fun j h => by
    have hm := hptm _ (List.getElem_mem h)
    generalize pt[j] = o at hm
    obtain ⟨q, hq, rfl⟩ := List.mem_iff_getElem.1 hm
    obtain ⟨u, hu, _, hul, huB⟩ := froms_at hU hq
    have hcs := nod_cases huB hu
    rw [hul] at hcs
    rcases hcs with ⟨ha, _⟩ | ⟨ha, h1, h2, _⟩ | ⟨ha, h1, h2, _, v, s, _, h5, h6, h7, _⟩
    · left; rcases arms_cases l[q].k with w | w | w | w <;> omega
    · right; left; exact ⟨by rcases arms_cases l[q].k with w | w | w | w <;> omega, by omega, by omega⟩
    · right; right; exact ⟨by rcases arms_cases l[q].k with w | w | w | w <;> omega, by omega, by omega, by omega, by omega⟩
  clear hpt
  conv => whnf
  rw [hpart]
  refine call0 (twinN_own pt (by omega) hptB) ?_
  conv => whnf
  refine loop_of hP [0, 1, 2, 6, 7, 8, 9, 10, 11, 12, 13, 14, 15, 22, 39, 49, 57, 90, 104, 132, 139] [200017, 200018] [0, 2, 7, 8, 9] [3904] [] (fun m st => ∃ j : Nat, m = pt.length - j ∧ j ≤ pt.length ∧
    st = ⟨[(0, .sl 5 (nodV l)), (2, .int .i64 kd), (7, .int .i64 k), (8, .own 3904 0), (9, .int .i64 j)], [(3904, .arr 0 false 5 (nodV ((pt.take j).map (shN k) ++ pt.drop j)))]⟩) pt.length ?_ ?_
  · conv => whnf
    exact ⟨0, rfl, Nat.zero_le _, rfl⟩
  · rintro m st ⟨j, rfl, hj, rfl⟩
    have hal : (nodV ((pt.take j).map (shN k) ++ pt.drop j)).length = pt.length := by simp; omega
    conv => whnf
    refine branch_of (fun h => ?_) (fun h => ?_)
    · have h := of_decide_eq_true h
      rw [hal] at h
      have hj' : j < pt.length := by omega
      have hpo := hpv j hj'
      have hA : nodV ((pt.take j).map (shN k) ++ pt.drop j) = nodV ((pt.take j).map (shN k)) ++ pt[j].c :: nodV (pt.drop (j + 1)) := by
        rw [List.drop_eq_getElem_cons hj', nodV, List.map_append, List.map_cons]
      have hB : nodV ((pt.take (j + 1)).map (shN k) ++ pt.drop (j + 1)) = nodV ((pt.take j).map (shN k)) ++ (shN k pt[j]).c :: nodV (pt.drop (j + 1)) := by
        rw [← List.take_append_getElem hj', List.map_append, nodV, List.map_append, List.map_append, List.append_assoc]; rfl
      have hLl : (nodV ((pt.take j).map (shN k))).length = j := by simp; omega
      have hlen : ∀ r : List V, ((nodV ((pt.take j).map (shN k)) ++ r :: nodV (pt.drop (j + 1))).length : Int) = pt.length := fun r => by
        rw [List.length_append, hLl, List.length_cons, List.length_map, List.length_drop]; omega
      have hw : IntKind.i64.wrap ((j : Int) + 1) = ((j + 1 : Nat) : Int) := by rw [wr (by omega) (by omega)]; rfl
      rw [hA]
      generalize hgo : pt[j] = o at *
      generalize nodV ((pt.take j).map (shN k)) = L at *
      generalize nodV (pt.drop (j + 1)) = R at *
      obtain ⟨ok, oa, ox, oy⟩ := o
      dsimp only at hpo
      conv => whnf
      refine ⟨⟨⟩, ⟨by omega, by rw [hlen]; omega⟩, ?_⟩
      conv => whnf
      refine ⟨_, mid_get hLl, ?_⟩
      rcases hpo with rfl | ⟨hk2, h1, h2⟩ | ⟨hk3, h1, h2, h3, h4⟩
      · have hsh : shN k ⟨1, oa, ox, oy⟩ = ⟨1, oa, ox, oy⟩ := by unfold shN; dsimp only; rw [if_pos rfl, if_neg (by omega)]
        rw [hsh] at hB
        conv => whnf
        refine ⟨⟨⟩, ⟨by omega, by rw [hlen]; omega⟩, ?_⟩
        conv => whnf
        refine ⟨_, mid_get hLl, ?_⟩
        conv => whnf
        refine ⟨⟨⟩, ⟨by omega, by rw [hlen]; omega⟩, ?_⟩
        conv => whnf
        refine ⟨_, mid_get hLl, ?_⟩
        conv => whnf
        refine ⟨⟨⟩, ⟨by omega, by rw [hlen]; omega⟩, ?_⟩
        conv => whnf
        refine ⟨_, mid_get hLl, ?_⟩
        conv => whnf
        rw [hw]
        exact ⟨pt.length - (j + 1), by omega, j + 1, rfl, by omega, by rw [hB]⟩
      · have hsh : shN k ⟨ok, oa, ox, oy⟩ = ⟨ok, oa, IntKind.i64.wrap (ox - k), oy⟩ := by unfold shN; dsimp only; rw [if_neg (by omega), if_neg (by omega), wr (by omega) (by omega)]
        rw [hsh] at hB
        rcases hk2 with rfl | rfl | rfl | rfl
        all_goals
          conv => whnf
          refine ⟨⟨⟩, ⟨by omega, by rw [hlen]; omega⟩, ?_⟩
          conv => whnf
          refine ⟨_, mid_get hLl, ?_⟩
          conv => whnf
          refine ⟨⟨⟩, ⟨by omega, by rw [hlen]; omega⟩, ?_⟩
          conv => whnf
          refine ⟨_, mid_get hLl, ?_⟩
          conv => whnf
          rw [mid_set hLl]
          refine ⟨⟨⟩, ⟨by omega, by rw [hlen]; omega⟩, ?_⟩
          conv => whnf
          refine ⟨_, mid_get hLl, ?_⟩
          conv => whnf
          refine ⟨⟨⟩, ⟨by omega, by rw [hlen]; omega⟩, ?_⟩
          conv => whnf
          refine ⟨_, mid_get hLl, ?_⟩
          conv => whnf
          refine ⟨⟨⟩, ⟨by omega, by rw [hlen]; omega⟩, ?_⟩
          conv => whnf
          refine ⟨_, mid_get hLl, ?_⟩
          conv => whnf
          rw [hw]
          exact ⟨pt.length - (j + 1), by omega, j + 1, rfl, by omega, by rw [hB]⟩
      · have hsh : shN k ⟨ok, oa, ox, oy⟩ = ⟨ok, oa, IntKind.i64.wrap (ox - k), IntKind.i64.wrap (oy - k)⟩ := by unfold shN; dsimp only; rw [if_neg (by omega), if_pos (by omega), wr (by omega) (by omega), wr (by omega) (by omega)]
        rw [hsh] at hB
        rcases hk3 with rfl | rfl | rfl
        · conv => whnf
          refine ⟨⟨⟩, ⟨by omega, by rw [hlen]; omega⟩, ?_⟩
          conv => whnf
          refine ⟨_, mid_get hLl, ?_⟩
          conv => whnf
          refine ⟨⟨⟩, ⟨by omega, by rw [hlen]; omega⟩, ?_⟩
          conv => whnf
          refine ⟨_, mid_get hLl, ?_⟩
          conv => whnf
          rw [mid_set hLl]
          refine ⟨⟨⟩, ⟨by omega, by rw [hlen]; omega⟩, ?_⟩
          conv => whnf
          refine ⟨_, mid_get hLl, ?_⟩
          conv => whnf
          refine ⟨⟨⟩, ⟨by omega, by rw [hlen]; omega⟩, ?_⟩
          conv => whnf
          refine ⟨_, mid_get hLl, ?_⟩
          conv => whnf
          refine ⟨⟨⟩, ⟨by omega, by rw [hlen]; omega⟩, ?_⟩
          conv => whnf
          refine ⟨_, mid_get hLl, ?_⟩
          conv => whnf
          rw [mid_set hLl]
          rw [hw]
          exact ⟨pt.length - (j + 1), by omega, j + 1, rfl, by omega, by rw [hB]⟩
        · conv => whnf
          refine ⟨⟨⟩, ⟨by omega, by rw [hlen]; omega⟩, ?_⟩
          conv => whnf
          refine ⟨_, mid_get hLl, ?_⟩
          conv => whnf
          refine ⟨⟨⟩, ⟨by omega, by rw [hlen]; omega⟩, ?_⟩
          conv => whnf
          refine ⟨_, mid_get hLl, ?_⟩
          conv => whnf
          rw [mid_set hLl]
          refine ⟨⟨⟩, ⟨by omega, by rw [hlen]; omega⟩, ?_⟩
          conv => whnf
          refine ⟨_, mid_get hLl, ?_⟩
          conv => whnf
          refine ⟨⟨⟩, ⟨by omega, by rw [hlen]; omega⟩, ?_⟩
          conv => whnf
          refine ⟨_, mid_get hLl, ?_⟩
          conv => whnf
          refine ⟨⟨⟩, ⟨by omega, by rw [hlen]; omega⟩, ?_⟩
          conv => whnf
          refine ⟨_, mid_get hLl, ?_⟩
          conv => whnf
          refine ⟨⟨⟩, ⟨by omega, by rw [hlen]; omega⟩, ?_⟩
          conv => whnf
          refine ⟨_, mid_get hLl, ?_⟩
          conv => whnf
          rw [mid_set hLl]
          rw [hw]
          exact ⟨pt.length - (j + 1), by omega, j + 1, rfl, by omega, by rw [hB]⟩
        · conv => whnf
          refine ⟨⟨⟩, ⟨by omega, by rw [hlen]; omega⟩, ?_⟩
          conv => whnf
          refine ⟨_, mid_get hLl, ?_⟩
          conv => whnf
          refine ⟨⟨⟩, ⟨by omega, by rw [hlen]; omega⟩, ?_⟩
          conv => whnf
          refine ⟨_, mid_get hLl, ?_⟩
          conv => whnf
          rw [mid_set hLl]
          refine ⟨⟨⟩, ⟨by omega, by rw [hlen]; omega⟩, ?_⟩
          conv => whnf
          refine ⟨_, mid_get hLl, ?_⟩
          conv => whnf
          refine ⟨⟨⟩, ⟨by omega, by rw [hlen]; omega⟩, ?_⟩
          conv => whnf
          refine ⟨_, mid_get hLl, ?_⟩
          conv => whnf
          refine ⟨⟨⟩, ⟨by omega, by rw [hlen]; omega⟩, ?_⟩
          conv => whnf
          refine ⟨_, mid_get hLl, ?_⟩
          conv => whnf
          refine ⟨⟨⟩, ⟨by omega, by rw [hlen]; omega⟩, ?_⟩
          conv => whnf
          refine ⟨_, mid_get hLl, ?_⟩
          conv => whnf
          refine ⟨⟨⟩, ⟨by omega, by rw [hlen]; omega⟩, ?_⟩
          conv => whnf
          refine ⟨_, mid_get hLl, ?_⟩
          conv => whnf
          rw [mid_set hLl]
          rw [hw]
          exact ⟨pt.length - (j + 1), by omega, j + 1, rfl, by omega, by rw [hB]⟩
    · have h := of_decide_eq_false h
      rw [hal] at h
      have e : (pt.take j).map (shN k) ++ pt.drop j = S.nodes 0 := by rw [List.take_of_length_le (by omega), List.drop_eq_nil_of_le (by omega), List.append_nil, s6]
      rw [e]
      have hPl : (S.nodes 0).length = S.size := S.nodes_len 0
      have hPB : ∀ o ∈ S.nodes 0, nodB o := fun o ho => by
        rw [← s6] at ho
        obtain ⟨o', ho', rfl⟩ := List.mem_map.1 ho
        exact hptB o' ho'
      have hPok : fmlOk (S.nodes 0) = true := tree_fml s1 s4 s5
      have hcc := fcheck_good (S.nodes 0) (by omega) hPB
      rw [hPok, if_pos rfl] at hcc
      have hPU : fromsS (S.nodes 0) = some (S.acc 0) := FT.froms s1 []
      have hdp := deep_good (S.nodes 0) (by omega) (S.acc 0) hPU
      rw [S.mx] at hdp
      have hPT := fmlT_tree s1
      clear hal hpv hptB hptm hptl s6 hfr hU s2 n2 hk hwl hwi hpart
      conv => whnf
      refine call0 (hcc) ?_
      conv => whnf
      refine seq_of hP [0, 1, 2, 6, 7, 8, 9, 10, 11, 12, 13, 14, 15, 22, 39, 49, 57, 90, 104, 132, 139] [200017, 200018] [2, 8, 10] [3904] [] (fun st => st = ⟨[(2, .int .i64 kd), (8, .own 3904 0), (10, .int .i64 (kN jd))], [(3904, .arr 0 true 5 (nodV (S.nodes 0)))]⟩) ?_ ?_
      · conv => whnf
        refine ⟨⟨⟩, by decide, ?_⟩
        conv => whnf
        rw [hwj]
        have h4c : jd = 0 ∨ jd = 1 ∨ jd = 2 ∨ jd = 3 := by omega
        rcases h4c with rfl | rfl | rfl | rfl
        all_goals
          conv => whnf
          refine ⟨⟨⟩, ⟨by decide, by decide⟩, ?_⟩
          conv => whnf
          refine ⟨_, rfl, ?_⟩
          conv => whnf
          rfl
      rintro st rfl
      conv => whnf
      have hkN : armsN (kN jd) = 1 := by
        have h4c : jd = 0 ∨ jd = 1 ∨ jd = 2 ∨ jd = 3 := by omega
        rcases h4c with rfl | rfl | rfl | rfl <;> rfl
      have hT1 : (FT.one (kN jd) S).ok = true := by simp only [FT.ok, hkN, s1]; rfl
      have htop : (FT.one (kN jd) S).nodes 0 = S.nodes 0 ++ [⟨kN jd, zeroA, (S.size : Int) - 1, 0⟩] := by simp only [FT.nodes, Nat.zero_add]
      have hwl2 : IntKind.i64.wrap (((nodV (S.nodes 0)).length : Int) - 1) = (S.size : Int) - 1 := by rw [List.length_map, hPl, wr (by omega) (by omega)]
      refine seq_of hP [0, 1, 2, 6, 7, 8, 9, 10, 11, 12, 13, 14, 15, 22, 39, 49, 57, 90, 104, 132, 139] [200017, 200018] [2, 8, 11] [3904, 8256] [.dal 8256 2 4] (fun st => st = ⟨[(2, .int .i64 kd), (8, .own 3904 0), (11, .own 8256 0)], [(3904, .arr 0 true 5 (nodV (S.nodes 0))), (8256, .arr 0 false 5 (nodV ((FT.one (kN jd) S).nodes 0)))]⟩) ?_ ?_
      · conv => whnf
        refine call0 (twinN_own (S.nodes 0) (by omega) hPB) ?_
        conv => whnf
        refine ⟨⟨⟩, by dsimp only; rw [List.length_map]; simp only [List.length_cons, List.length_nil]; omega, ?_⟩
        conv => whnf
        refine ⟨_, _, rfl, rfl, ?_⟩
        conv => whnf
        rw [hwl2, htop, show nodV (S.nodes 0 ++ [⟨kN jd, zeroA, (S.size : Int) - 1, 0⟩]) = nodV (S.nodes 0) ++ [Nod.c ⟨kN jd, zeroA, (S.size : Int) - 1, 0⟩] from List.map_append]
        rfl
      rintro st rfl
      have hQl : ((FT.one (kN jd) S).nodes 0).length = S.size + 1 := by rw [htop, List.length_append, hPl]; rfl
      have hQB : ∀ o ∈ (FT.one (kN jd) S).nodes 0, nodB o := fun o ho => by
        rw [htop] at ho
        rcases List.mem_append.1 ho with ho | ho
        · exact hPB o ho
        · simp only [List.mem_singleton] at ho
          subst ho
          exact ⟨Nat.zero_le _, Nat.zero_le _, fun t ht => by cases ht⟩
      have hQok := FT.fml_iff hT1
      have hQT : fmlT ((FT.one (kN jd) S).nodes 0) = wordT (kN jd) ++ [32] ++ S.txt := fmlT_tree hT1
      have hsz1 : (FT.one (kN jd) S).size = S.size + 1 := rfl
      have hdp1 : (FT.one (kN jd) S).deep = S.deep + 1 := rfl
      rw [hsz1, hdp1] at hQok
      have htx1 := ftext_good (S.nodes 0) (by omega) hPB
      have htx2 := ftext_good ((FT.one (kN jd) S).nodes 0) (by omega) hQB
      generalize (FT.one (kN jd) S).nodes 0 = Q at *
      generalize hP : S.nodes 0 = P at *
      clear htop hT1 hsz1 hdp1
      cases hq : fmlOk Q with
      | false =>
        have hE : fmlE Q = 17 ∧ fmlX Q = [] := by unfold fmlX fmlE; rw [hq]; exact ⟨rfl, rfl⟩
        rw [hE.1, hE.2] at htx2
        rw [hq] at hQok
        have hQok := of_decide_eq_false hQok.symm
        generalize fmlX P = px at *
        generalize fmlE P = pe at *
        conv => whnf
        refine call0 (htx1) ?_
        conv => whnf
        refine call0 (htx2) ?_
        conv => whnf
        refine branch_of (fun h2 => ?_) (fun h2 => ?_)
        · conv => whnf
          refine call0 (wakes12_good) ?_
          conv => whnf
          exact fin0 rfl trivial
        · have h2 := of_decide_eq_false h2
          rw [List.length_map] at h2
          conv => whnf
          refine call0 (hdp) ?_
          conv => whnf
          refine branch_of (fun h3 => ?_) (fun h3 => ?_)
          · conv => whnf
            refine call0 (wakes12_good) ?_
            conv => whnf
            exact fin0 rfl trivial
          · have h3 := of_decide_eq_false h3
            exact absurd (show ((S.deep : Nat) : Int) = 12 by omega) h3
      | true =>
        rw [hq] at hQok
        have hQok := of_decide_eq_true hQok.symm
        by_cases hlen : 20000 < (fmlT Q).length
        · have hE : fmlE Q = 2 ∧ fmlX Q = [] := by unfold fmlX fmlE; rw [hq, if_pos rfl, if_pos hlen]; exact ⟨rfl, rfl⟩
          rw [hE.1, hE.2] at htx2
          generalize fmlX P = px at *
          generalize fmlE P = pe at *
          conv => whnf
          refine call0 (htx1) ?_
          conv => whnf
          refine call0 (htx2) ?_
          conv => whnf
          refine call0 (wakes12_good) ?_
          conv => whnf
          exact fin0 rfl trivial
        · have hE : fmlE Q = 0 ∧ fmlX Q = fmlT Q := by unfold fmlX fmlE; rw [hq, if_pos rfl, if_neg hlen]; exact ⟨rfl, rfl⟩
          have hlen2 : (S.txt).length ≤ 20000 := by rw [hQT, List.length_append] at hlen; omega
          have hE1 : fmlE P = 0 ∧ fmlX P = S.txt := by unfold fmlX fmlE; rw [hPok, if_pos rfl, hPT, if_neg (by omega)]; exact ⟨rfl, rfl⟩
          rw [hE.1, hE.2, hQT] at htx2
          rw [hE1.1, hE1.2] at htx1
          generalize S.txt = tx at *
          conv => whnf
          refine call0 (htx1) ?_
          conv => whnf
          refine call0 (htx2) ?_
          have h4c : jd = 0 ∨ jd = 1 ∨ jd = 2 ∨ jd = 3 := by omega
          conv => whnf
          refine ⟨⟨⟩, by decide, ?_⟩
          conv => whnf
          rw [hwj]
          have hd12 : decide (((S.deep : Nat) : Int) < 12) = true := decide_eq_true (by omega)
          rcases h4c with rfl | rfl | rfl | rfl
          all_goals
            conv => whnf
            refine ⟨⟨⟩, ⟨by decide, by decide⟩, ?_⟩
            conv => whnf
            refine ⟨_, rfl, ?_⟩
            conv => whnf
            refine ⟨⟨⟩, by show _ + tx.length ≤ 9223372036854775807; dsimp only; simp only [List.length_cons, List.length_nil]; omega, ?_⟩
            conv => whnf
            refine branch_of (fun h => ?_) (fun h => ?_)
            · conv => whnf
              refine branch_of (fun h2 => ?_) (fun h2 => ?_)
              · conv => whnf
                refine call0 (hdp) ?_
                conv => whnf
                rw [hd12]
                conv => whnf
                refine call0 (wakes12_good) ?_
                conv => whnf
                exact fin0 rfl trivial
              · have h2 := of_decide_eq_false h2
                rw [List.length_map] at h2
                exact absurd (show ((P.length : Nat) : Int) < 40 by omega) h2
            · exact absurd rfl (of_decide_eq_false h)
end Go.PV
namespace Go.PV
open Go Go.RowKit
/-! an argument that can be read as data, as plain data -/
def cel (w : World) (b o : Nat) (u : Value) : Prop := w.cell? ⟨b, o, none⟩ = some u
def CellsW (w : World) (l : List V) (cs : List Value) : Prop := cs.length = l.length ∧ ∀ (j : Nat) (p : V), l[j]? = some p → ∃ u, cs[j]? = some u ∧ Sh (cel w) p u
theorem CellsW.one {w : World} {p : V} {u : Value} (h : Sh (cel w) p u) : CellsW w [p] [u] := ⟨rfl, fun j q hj => by
  cases j with
  | zero => simp at hj; subst hj; exact ⟨u, rfl, h⟩
  | succ j => simp at hj⟩
theorem CellsW.append {w : World} {l m : List V} {cs ds : List Value} (h : CellsW w l cs) (k : CellsW w m ds) : CellsW w (l ++ m) (cs ++ ds) := ⟨by simp [h.1, k.1], fun j p hj => by
  rcases Nat.lt_or_ge j l.length with hl | hl
  · rw [List.getElem?_append_left hl] at hj
    rw [List.getElem?_append_left (by rw [h.1]; exact hl)]; exact h.2 j p hj
  · rw [List.getElem?_append_right hl] at hj
    rw [List.getElem?_append_right (by rw [h.1]; exact hl), h.1]; exact k.2 _ p hj⟩
structure OpensV {α : Type} (n : Nat) (c : α → List V) (P : Program) (t : TypeId) (ok : α → Prop) : Prop where
  cells : P.cellsOf t = n
  len : ∀ v, (c v).length = n
  opens : ∀ {H : Type} {enc : TypeId × Value → H} {w : World} {base : Nat} {spare : Nat → Bool} {held : Bool} {fuel : Nat} {cs : List Value} {x : DataW H × List MemPlace},
    DataW.trod enc P w base spare held fuel t cs = some x → ∃ v, CellsW w (c v) cs ∧ ok v
section
variable {P : Program} {t : TypeId}
theorem OpensV.mono {α : Type} {n : Nat} {c : α → List V} {ok ok' : α → Prop} (h : OpensV n c P t ok) (hm : ∀ v, ok v → ok' v) : OpensV n c P t ok' :=
  ⟨h.cells, h.len, fun hx => by obtain ⟨v, h1, h2⟩ := h.opens hx; exact ⟨v, h1, hm v h2⟩⟩
theorem OpensV.int {k : IntKind} (hu : P.underlying t = some (.int k)) (hc : P.cellsOf t = 1) : OpensV 1 (fun n => [.int k n]) P t (fun n => (Lit.int k n).wf = true) :=
  ⟨hc, fun _ => rfl, fun hx => by obtain ⟨m, rfl, rfl, hw⟩ := DataW.trod_int hu hx; exact ⟨m, .one (.int _ _), hw⟩⟩
theorem OpensV.string (hu : P.underlying t = some .string) (hc : P.cellsOf t = 1) : OpensV 1 (fun s : List UInt8 => [.str s]) P t (fun s => s.length ≤ maxLen) :=
  ⟨hc, fun _ => rfl, fun hx => by obtain ⟨s, rfl, _, hw⟩ := DataW.trod_string hu hx; exact ⟨s.data.toList, .one (.str _), hw⟩⟩
theorem OpensV.bool (hu : P.underlying t = some .bool) (hc : P.cellsOf t = 1) : OpensV 1 (fun b => [.bool b]) P t (fun _ => True) :=
  ⟨hc, fun _ => rfl, fun hx => by obtain ⟨b, rfl, _⟩ := DataW.trod_bool hu hx; exact ⟨b, .one (.bool _), trivial⟩⟩
theorem OpensV.iso {α β : Type} {n : Nat} {c : α → List V} {ok : α → Prop} {f : β → α} (g : α → β) (hg : ∀ a, f (g a) = a) (h : OpensV n c P t ok) : OpensV n (fun b => c (f b)) P t (fun b => ok (f b)) :=
  ⟨h.cells, fun b => h.len (f b), fun hx => by
    obtain ⟨v, h1, h2⟩ := h.opens hx
    exact ⟨g v, by rw [hg]; exact h1, by rw [hg]; exact h2⟩⟩
/-- fields that lie side by side from off on -/
structure OpensVs {α : Type} (n : Nat) (c : α → List V) (P : Program) (fs : List Field) (off : Nat) (ok : α → Prop) : Prop where
  len : ∀ v, (c v).length = n
  opens : ∀ {H : Type} {enc : TypeId × Value → H} {w : World} {base : Nat} {spare : Nat → Bool} {held : Bool} {fuel : Nat} {cs : List Value},
    off + n = cs.length → (∀ (i : Nat) (f : Field), fs[i]? = some f → ∃ x, DataW.trod enc P w base spare held fuel f.type ((cs.drop f.offset).take (P.cellsOf f.type)) = some x) → ∃ v, CellsW w (c v) (cs.drop off) ∧ ok v
theorem OpensVs.one {α : Type} {n : Nat} {c : α → List V} {f : Field} {off : Nat} {ok : α → Prop} (ho : f.offset = off) (h : OpensV n c P f.type ok) : OpensVs n c P [f] off ok := by
  refine ⟨h.len, ?_⟩
  intro H enc w base spare held fuel cs hl hx
  obtain ⟨x, hx⟩ := hx 0 f rfl
  rw [ho, h.cells, List.take_of_length_le (by simp; omega)] at hx
  exact h.opens hx
theorem OpensVs.cons {α β : Type} {n m : Nat} {c : α → List V} {d : β → List V} {f : Field} {fs : List Field} {off : Nat} {ok : α → Prop} {ok' : β → Prop} (ho : f.offset = off) (h : OpensV n c P f.type ok) (h' : OpensVs m d P fs (off + n) ok') :
    OpensVs (n + m) (fun v : α × β => c v.1 ++ d v.2) P (f :: fs) off (fun v => ok v.1 ∧ ok' v.2) := by
  refine ⟨fun v => by rw [List.length_append, h.len, h'.len], ?_⟩
  intro H enc w base spare held fuel cs hl hx
  obtain ⟨x, hx0⟩ := hx 0 f rfl
  rw [ho, h.cells] at hx0
  obtain ⟨v, hv, ov⟩ := h.opens hx0
  obtain ⟨u, hu, ou⟩ := h'.opens (cs := cs) (by omega) (fun i g hg => hx (i + 1) g hg)
  refine ⟨(v, u), ?_, ov, ou⟩
  have := hv.append hu
  rwa [← List.drop_drop, List.take_append_drop] at this
theorem OpensV.struct {α : Type} {n : Nat} {c : α → List V} {fs : Array Field} {ok : α → Prop} (hu : P.underlying t = some (.struct fs)) (hc : P.cellsOf t = n) (h : OpensVs n c P fs.toList 0 ok) : OpensV n c P t ok := by
  refine ⟨hc, h.len, ?_⟩
  intro H enc w base spare held fuel cs x hx
  obtain ⟨xs, n, rfl, _, hl, hxl, hf⟩ := DataW.trod_struct hu hx
  have := h.opens (cs := cs) (enc := enc) (w := w) (base := base) (spare := spare) (held := held) (fuel := n) (by omega) (by
    intro i f hi
    have hi' : fs[i]? = some f := by simpa using hi
    have hlt : i < xs.length := by
      rw [hxl]
      exact (Array.getElem?_eq_some_iff.1 hi').1
    exact ⟨xs[i], by rw [hf i f hi', List.getElem?_eq_getElem hlt]⟩)
  simpa using this
theorem list_of {α : Type} {Q : Nat → α → Prop} : ∀ n : Nat, (∀ i, i < n → ∃ v, Q i v) → ∃ l : List α, l.length = n ∧ ∀ i v, l[i]? = some v → Q i v := by
  intro n
  induction n with
  | zero => intro _; exact ⟨[], rfl, fun i v h => by simp at h⟩
  | succ n ih =>
    intro h
    obtain ⟨l, hl, hq⟩ := ih (fun i hi => h i (by omega))
    obtain ⟨v, hv⟩ := h n (by omega)
    refine ⟨l ++ [v], by simp [hl], ?_⟩
    intro i u hu
    by_cases hi : i < l.length
    · rw [List.getElem?_append_left hi] at hu
      exact hq i u hu
    · rw [List.getElem?_append_right (by omega)] at hu
      have h0 : i - l.length = 0 := by
        by_cases h0 : i - l.length = 0
        · exact h0
        · rw [List.getElem?_eq_none (by simp; omega)] at hu; cases hu
      rw [h0] at hu
      simp at hu
      subst hu
      have : i = n := by omega
      subst this
      exact hv
theorem cell_spot {w : World} {a : Addr} {u : Value} (h : w.cell? a = some u) : a.spot = none := by
  unfold World.cell? at h
  split at h
  · cases hs : a.spot with
    | none => rfl
    | some s => rw [hs] at h; simp at h
  · cases h
/-- a slice that is read as data -/
theorem OpensV.row {α : Type} {n : Nat} {c : α → List V} {e : TypeId} {ok : α → Prop} (h : OpensV n c P e ok) (h0 : 0 < n) (hu : P.underlying t = some (.slice e))
    {H : Type} {enc : TypeId × Value → H} {w : World} {base : Nat} {spare : Nat → Bool} {held : Bool} {fuel : Nat} {cs : List Value} {x : DataW H × List MemPlace}
    (hx : DataW.trod enc P w base spare held fuel t cs = some x) : ∃ (l : List α) (A : Option Addr) (cap : Nat), cs = [.slice A l.length cap] ∧ Sh (cel w) (.sl n (l.map c)) (.slice A l.length cap) ∧ l.length ≤ cap ∧ cap ≤ maxLen ∧ ∀ v ∈ l, ok v := by
  rcases DataW.trod_slice hu hx with ⟨hcs, _⟩ | ⟨a, len, cap, elems, rest, m, rfl, hcs, _, hb, hl, hm, hlen, hel, _⟩
  · exact ⟨[], none, 0, hcs, .sl0 _ _ _, Nat.le_refl _, by unfold maxLen; omega, fun v hv => by simp at hv⟩
  · obtain ⟨l, hll, hq⟩ := list_of (Q := fun i v => ∃ cs, w.cells? base (a.add (i * P.cellsOf e)) (P.cellsOf e) = some cs ∧ CellsW w (c v) cs ∧ ok v) len (by
      intro i hi
      have h1 := hel i hi
      rw [List.getElem?_eq_getElem (by omega), Option.bind_eq_some_iff] at h1
      obtain ⟨cs, h2, h3⟩ := h1
      obtain ⟨v, h4, h5⟩ := h.opens h3
      exact ⟨v, cs, h2, h4, h5⟩)
    have hok : ∀ v ∈ l, ok v := by
      intro v hv
      obtain ⟨i, hi⟩ := List.getElem?_of_mem hv
      obtain ⟨_, _, _, h5⟩ := hq i v hi
      exact h5
    refine ⟨l, some a, cap, by rw [hll]; exact hcs, ?_, by omega, hm, hok⟩
    by_cases hz : l = []
    · subst hz; exact .sl0 _ _ _
    have at_ : ∀ (i : Nat) (v : α) (j : Nat) (p : V), l[i]? = some v → (c v)[j]? = some p → ∃ u, w.cell? ((a.add (i * n)).add j) = some u ∧ Sh (cel w) p u := by
      intro i v j p hi hj
      obtain ⟨cs, h2, h4, _⟩ := hq i v hi
      obtain ⟨_, h6, h7⟩ := World.cells?_some h2
      obtain ⟨u, h8, h9⟩ := h4.2 j p hj
      have hlt : j < P.cellsOf e := by rw [← h6]; exact (List.getElem?_eq_some_iff.1 h8).1
      have h10 := h7 j hlt
      rw [h.cells, h8] at h10
      exact ⟨u, h10, h9⟩
    have hsp : a.spot = none := by
      obtain ⟨v, r, rfl⟩ := List.exists_cons_of_ne_nil hz
      have h1 : 0 < (c v).length := by rw [h.len]; exact h0
      obtain ⟨u, h2, _⟩ := at_ 0 v 0 _ rfl (List.getElem?_eq_getElem h1)
      have := cell_spot h2
      simpa [Addr.add] using this
    obtain ⟨b, off, sp⟩ := a
    simp only at hsp
    subst hsp
    have hadd : ∀ i j : Nat, ((⟨b, off, none⟩ : Addr).add (i * n)).add j = ⟨b, off + i * n + j, none⟩ := fun i j => by
      rw [Addr.add_none, Addr.add_none]
    have hml : (l.map c).length = l.length := List.length_map _
    rw [← hml]
    refine .sl n (l.map c) b off cap (fun i j => (w.cell? ⟨b, off + i * n + j, none⟩).getD undef) h0 (fun i x hx => ?_) (by rw [hml]; omega) (fun i x j p hx hj => ?_) (fun i x j p hx hj => ?_)
    · rw [List.getElem?_map, Option.map_eq_some_iff] at hx
      obtain ⟨v, _, rfl⟩ := hx; exact h.len v
    · rw [List.getElem?_map, Option.map_eq_some_iff] at hx
      obtain ⟨v, hi, rfl⟩ := hx
      obtain ⟨u, h2, _⟩ := at_ i v j p hi hj
      rw [hadd] at h2
      show w.cell? _ = _
      rw [h2]; rfl
    · rw [List.getElem?_map, Option.map_eq_some_iff] at hx
      obtain ⟨v, hi, rfl⟩ := hx
      obtain ⟨u, h2, h3⟩ := at_ i v j p hi hj
      rw [hadd] at h2
      rw [h2]; exact h3
theorem OpensV.slice {α : Type} {n : Nat} {c : α → List V} {e : TypeId} {ok : α → Prop} (h : OpensV n c P e ok) (h0 : 0 < n) (hu : P.underlying t = some (.slice e)) (hc : P.cellsOf t = 1) : OpensV 1 (fun l : List α => [.sl n (l.map c)]) P t (fun l => l.length ≤ maxLen ∧ ∀ v ∈ l, ok v) :=
  ⟨hc, fun _ => rfl, fun hx => by
    obtain ⟨l, A, cap, rfl, h2, h3, h4, h5⟩ := h.row h0 hu hx
    exact ⟨l, .one h2, Nat.le_trans h3 h4, h5⟩⟩
/-- an argument that is a slice -/
theorem OpensV.arg {α : Type} {n : Nat} {c : α → List V} {e : TypeId} {ok : α → Prop} (h : OpensV n c P e ok) (h0 : 0 < n) (hu : P.underlying t = some (.slice e))
    {H : Type} {enc : TypeId × Value → H} {w : World} {r : Reach} {base b0 : Nat} {spare : Nat → Bool} {held : Bool} {v : Value} {x : DataW H} {ps : List MemPlace}
    (hv : Value.okWide P w r b0 t v) (hx : DataW.Trod enc P w base spare held t v x ps) : ∃ l : List α, Sh (cel w) (.sl n (l.map c)) v ∧ l.length ≤ maxLen ∧ ∀ v ∈ l, ok v := by
  obtain ⟨a, len, cap, rfl⟩ := Go.WideShapes.okWide_slice hu hv
  obtain ⟨fuel, hf⟩ := hx
  have hf' : DataW.trod enc P w base spare held fuel t [.slice a len cap] = some (x, ps) := hf
  obtain ⟨l, A, cp, h1, h2, h3, h4, h5⟩ := h.row h0 hu hf'
  cases h1
  exact ⟨l, h2, Nat.le_trans h3 h4, h5⟩
/-- an argument that is a struct -/
theorem OpensV.agg {α : Type} {n : Nat} {c : α → List V} {ok : α → Prop} (h : OpensV n c P t ok) {fs : Array Field} (hu : P.underlying t = some (.struct fs))
    {H : Type} {enc : TypeId × Value → H} {w : World} {r : Reach} {base b0 : Nat} {spare : Nat → Bool} {held : Bool} {v : Value} {x : DataW H} {ps : List MemPlace}
    (hv : Value.okWide P w r b0 t v) (hx : DataW.Trod enc P w base spare held t v x ps) : ∃ u cs, v = .agg ⟨cs⟩ ∧ CellsW w (c u) cs ∧ ok u := by
  obtain ⟨cs, rfl, _⟩ := Go.WideShapes.okWide_struct hu hv
  obtain ⟨fuel, hf⟩ := hx
  obtain ⟨u, h1, h2⟩ := h.opens hf
  exact ⟨u, cs.toList, rfl, h1, h2⟩
end
/-- what nothing owns -/
def G0 : Gh := { own := fun _ => ⟨none, none⟩, blk := fun _ => 0, cap := fun _ => 0, isnil := fun _ => false }
theorem sh0 {w : World} {p : V} {v : Value} (h : Sh (cel w) p v) : Sh (stab G0 w) p v := h.mono fun b o c hc => ⟨fun l hl => (by cases hl), hc⟩
theorem ra0 {w : World} {O : Tb} {p : V} {v : Value} (h : Sh (cel w) p v) : RA G0 w O p v := .cell _ _ (.sh _ _ (sh0 h))
/-- pair by pair -/
inductive Each (R : V → Value → Prop) : List V → List Value → Prop
  | nil : Each R [] []
  | cons {p v ps vs} (h : R p v) (k : Each R ps vs) : Each R (p :: ps) (v :: vs)
theorem cellsOf {R : V → Value → Prop} : ∀ {ps : List V} {vs : List Value}, Each R ps vs → Cells R ps ⟨vs⟩
  | [], [], _ => ⟨rfl, fun j p hj => by simp at hj⟩
  | p :: ps, v :: vs, .cons h1 h2 => by
    have ih := cellsOf h2
    refine ⟨by have := ih.1; simp at this ⊢; omega, fun j q hj => ?_⟩
    cases j with
    | zero => simp at hj; subst hj; exact ⟨v, rfl, h1⟩
    | succ j => obtain ⟨c, h3, h4⟩ := ih.2 j q (by simpa using hj); exact ⟨c, by simpa using h3, h4⟩
/-- a law's call -/
theorem law_calls {P : Program} [Env P] {f : FuncId} {args : List V} {vs : List Value} {w : World} (h : Good P f args [] [.bool true] []) (hc : Each (RA G0 w (tbl [])) args vs) (hn : Env.ng P ≤ w.heap.size) (hz : Env.Z P w) :
    Calls P f ⟨vs⟩ w fun e w' => e = .returned (.bool true) ∧ Below w.heap.size w w' :=
  (h.run ⟨vs⟩ w G0 (cellsOf hc) (fun k o hk => by simp at hk) (fun k hk => ⟨by omega, rfl⟩) hz).mono fun e w' hh => by
    obtain ⟨rv, G', h1, h2, _, h3⟩ := hh
    refine ⟨?_, ⟨h3.sys, h3.tape, h3.output, h3.size, fun k hk => (h3.im k hk rfl).2⟩⟩
    rw [h1]
    cases (show RA G' w' (tbl []) (.bool true) rv from h2).bool_eq
    rfl
end Go.PV
namespace Go.PV
open Go Go.RowKit Go.Proofs
/-! what is known of arguments of these types -/
def ok3 : Int → Prop := fun n : Int => (Lit.int .i64 n).wf = true
abbrev c3 : Int → List V := fun n => [.int .i64 n]
theorem o3 : OpensV 1 c3 Tryz.prog 3 ok3 := OpensV.int Tryz.underlying3 (by kernel_rfl)
def ok9 : List UInt8 → Prop := fun s : List UInt8 => s.length ≤ maxLen
abbrev c9 : List UInt8 → List V := fun s => [.str s]
theorem o9 : OpensV 1 c9 Tryz.prog 9 ok9 := OpensV.string Tryz.underlying9 (by kernel_rfl)
theorem t129 : OpensV 3 (fun v : Int × Int × List UInt8 => c3 v.1 ++ (c3 v.2.1 ++ (c9 v.2.2))) Tryz.prog 129 (fun v => ok3 v.1 ∧ ok3 v.2.1 ∧ ok9 v.2.2) := by
  refine OpensV.struct Tryz.underlying129 (by kernel_rfl) ?_
  refine OpensVs.cons (n := 1) (m := 2) (c := c3) (d := fun w : Int × List UInt8 => c3 w.1 ++ (c9 w.2)) (ok := ok3) (ok' := fun w : Int × List UInt8 => ok3 w.1 ∧ ok9 w.2) rfl o3 ?_
  refine OpensVs.cons (n := 1) (m := 1) (c := c3) (d := fun w : List UInt8 => c9 w) (ok := ok3) (ok' := fun w : List UInt8 => ok9 w) rfl o3 ?_
  exact OpensVs.one (c := c9) (ok := ok9) rfl o9
def ok129 : Val → Prop := fun x => let v := ((fun v => (v.k, v.n, v.s) : Val → (Int × Int × List UInt8))) x; ok3 v.1 ∧ ok3 v.2.1 ∧ ok9 v.2.2
abbrev c129 : Val → List V := fun x => let v := ((fun v => (v.k, v.n, v.s) : Val → (Int × Int × List UInt8))) x; c3 v.1 ++ (c3 v.2.1 ++ (c9 v.2.2))
theorem o129 : OpensV 3 c129 Tryz.prog 129 ok129 := OpensV.iso (f := (fun v => (v.k, v.n, v.s) : Val → (Int × Int × List UInt8))) ((fun a => ⟨a.1, a.2.1, a.2.2⟩ : (Int × Int × List UInt8) → Val)) (fun _ => rfl) t129
theorem t131 : OpensV 4 (fun v : List UInt8 × Val => c9 v.1 ++ (c129 v.2)) Tryz.prog 131 (fun v => ok9 v.1 ∧ ok129 v.2) := by
  refine OpensV.struct Tryz.underlying131 (by kernel_rfl) ?_
  refine OpensVs.cons (n := 1) (m := 3) (c := c9) (d := fun w : Val => c129 w) (ok := ok9) (ok' := fun w : Val => ok129 w) rfl o9 ?_
  exact OpensVs.one (c := c129) (ok := ok129) rfl o129
def ok131 : Trm → Prop := fun x => let v := ((fun v => (v.v, v.x) : Trm → (List UInt8 × Val))) x; ok9 v.1 ∧ ok129 v.2
abbrev c131 : Trm → List V := fun x => let v := ((fun v => (v.v, v.x) : Trm → (List UInt8 × Val))) x; c9 v.1 ++ (c129 v.2)
theorem o131 : OpensV 4 c131 Tryz.prog 131 ok131 := OpensV.iso (f := (fun v => (v.v, v.x) : Trm → (List UInt8 × Val))) ((fun a => ⟨a.1, a.2⟩ : (List UInt8 × Val) → Trm)) (fun _ => rfl) t131
def ok46 : List (Trm) → Prop := fun l => l.length ≤ maxLen ∧ ∀ v ∈ l, ok131 v
abbrev c46 : List (Trm) → List V := fun l => [.sl 4 (l.map c131)]
theorem o46 : OpensV 1 c46 Tryz.prog 46 ok46 := OpensV.slice o131 (by decide) Tryz.underlying46 (by kernel_rfl)
theorem t48 : OpensV 2 (fun v : List UInt8 × List (Trm) => c9 v.1 ++ (c46 v.2)) Tryz.prog 48 (fun v => ok9 v.1 ∧ ok46 v.2) := by
  refine OpensV.struct Tryz.underlying48 (by kernel_rfl) ?_
  refine OpensVs.cons (n := 1) (m := 1) (c := c9) (d := fun w : List (Trm) => c46 w) (ok := ok9) (ok' := fun w : List (Trm) => ok46 w) rfl o9 ?_
  exact OpensVs.one (c := c46) (ok := ok46) rfl o46
def ok48 : Atm → Prop := fun x => let v := ((fun v => (v.n, v.a) : Atm → (List UInt8 × List (Trm)))) x; ok9 v.1 ∧ ok46 v.2
abbrev c48 : Atm → List V := fun x => let v := ((fun v => (v.n, v.a) : Atm → (List UInt8 × List (Trm)))) x; c9 v.1 ++ (c46 v.2)
theorem o48 : OpensV 2 c48 Tryz.prog 48 ok48 := OpensV.iso (f := (fun v => (v.n, v.a) : Atm → (List UInt8 × List (Trm)))) ((fun a => ⟨a.1, a.2⟩ : (List UInt8 × List (Trm)) → Atm)) (fun _ => rfl) t48
theorem t50 : OpensV 5 (fun v : Int × Atm × Int × Int => c3 v.1 ++ (c48 v.2.1 ++ (c3 v.2.2.1 ++ (c3 v.2.2.2)))) Tryz.prog 50 (fun v => ok3 v.1 ∧ ok48 v.2.1 ∧ ok3 v.2.2.1 ∧ ok3 v.2.2.2) := by
  refine OpensV.struct Tryz.underlying50 (by kernel_rfl) ?_
  refine OpensVs.cons (n := 1) (m := 4) (c := c3) (d := fun w : Atm × Int × Int => c48 w.1 ++ (c3 w.2.1 ++ (c3 w.2.2))) (ok := ok3) (ok' := fun w : Atm × Int × Int => ok48 w.1 ∧ ok3 w.2.1 ∧ ok3 w.2.2) rfl o3 ?_
  refine OpensVs.cons (n := 2) (m := 2) (c := c48) (d := fun w : Int × Int => c3 w.1 ++ (c3 w.2)) (ok := ok48) (ok' := fun w : Int × Int => ok3 w.1 ∧ ok3 w.2) rfl o48 ?_
  refine OpensVs.cons (n := 1) (m := 1) (c := c3) (d := fun w : Int => c3 w) (ok := ok3) (ok' := fun w : Int => ok3 w) rfl o3 ?_
  exact OpensVs.one (c := c3) (ok := ok3) rfl o3
def ok50 : Nod → Prop := fun x => let v := ((fun v => (v.k, v.a, v.x, v.y) : Nod → (Int × Atm × Int × Int))) x; ok3 v.1 ∧ ok48 v.2.1 ∧ ok3 v.2.2.1 ∧ ok3 v.2.2.2
abbrev c50 : Nod → List V := fun x => let v := ((fun v => (v.k, v.a, v.x, v.y) : Nod → (Int × Atm × Int × Int))) x; c3 v.1 ++ (c48 v.2.1 ++ (c3 v.2.2.1 ++ (c3 v.2.2.2)))
theorem o50 : OpensV 5 c50 Tryz.prog 50 ok50 := OpensV.iso (f := (fun v => (v.k, v.a, v.x, v.y) : Nod → (Int × Atm × Int × Int))) ((fun a => ⟨a.1, a.2.1, a.2.2.1, a.2.2.2⟩ : (Int × Atm × Int × Int) → Nod)) (fun _ => rfl) t50
end Go.PV
namespace Go.PV
open Go
/-! a row's closed facts, one by one -/
theorem joined_of {P : Program} {f : FuncId} {fn : Func} {s : ChangeSpec} {c : OpenClaim} (h1 : c.wf (OpenSpec.ofChange s) = true) (h2 : laidOutB P = true) (h3 : mapsRowed P = true) (h4 : namedTie P c.named s.vars = true)
    (h5 : (P.stops == []) = true) (h6 : (P.stopKnobs == []) = true) (h7 : (c.inPlace == P.inPlace f) = true) (h8 : (c.unfollowed == P.unfollowed f) = true) (h9 : (c.recurses == P.recurses f) = true) (h10 : (c.named == P.varsNamed f) = true)
    (h11 : (c.plainKeys == P.plainKeys) = true) (h12 : P.stopsHeard = true) (h13 : P.mayEnter = true) (h14 : (c.lifted == P.liftsFinal) = true) (h15 : (P.make == some c.make) = true)
    (h16 : (fn.params.all (P.readableRec ·) && (c.stops == []) && (c.knobs == []) &&
      (c.maps == (fn.params.toList ++ s.plain.varTypes P).any (P.mapsRec ·)) && (c.ifaces == (fn.params.toList ++ s.plain.varTypes P).any (P.ifacesRec ·)) && (c.mapsOut == P.mapsAmong fn.resultTypes.toList) &&
      (c.loops == (fn.params.toList ++ s.plain.varTypes P).any (P.loopsFrom ·)) && (c.wideKeys == (fn.params.toList ++ s.plain.varTypes P ++ fn.resultTypes.toList).any (P.wideKeysFrom ·)) &&
      s.vars.all (P.varReadable ·) && fn.resultTypes.all (fun t => P.readableRec t && decide (t < P.types.size)) && (c.ifacesOut == fn.resultTypes.toList.any (P.ifacesRec ·)) && (c.loopsOut == fn.resultTypes.toList.any (P.loopsFrom ·)) && c.shortTexts.isNone &&
      (c.kinds == (if c.domain.isEmpty then [] else fn.params.toList.map fun t => match P.underlying t with | some (.int k) => some k | _ => none)) && (c.pinned == c.pinnedBy) &&
      (c.veiled == (fn.params.toList ++ s.plain.varTypes P ++ fn.resultTypes.toList).any (P.veiledRec ·)) && c.veiledFits P fn.params.toList (fn.params.toList ++ s.plain.varTypes P ++ fn.resultTypes.toList)) = true) : joinedFacts P f fn s c = true := by
  unfold joinedFacts
  rw [h1, h2, h3, h4, h5, h6, h7, h8, h9, h10, h11, h12, h13, h14, h15]
  simp only [Bool.true_and, Bool.and_true]
  exact h16
end Go.PV
namespace Go.PV
open Go Go.RowKit Go.Lib Go.Proofs Go.Proofs.YtfdopmapaaagoaaGreatDoor
theorem pow_datum : (Rows.laid_internal_strconv_uint64pow10 : DataW Unit) = Lib.tabData .u64 Lib.pow10Tab := by kernel_rfl
theorem laidT_of {r : List (String × DataW Unit)} {W : World} (h : laidMet Tryz.prog (("internal/strconv.uint64pow10", Rows.laid_internal_strconv_uint64pow10) :: r) W) : Lib.TabIs Tryz.prog W "internal/strconv.uint64pow10" .u64 Lib.pow10Tab := by
  rw [pow_datum] at h
  exact tabIs_of_head (g := 1) (by kernel_rfl) (by kernel_rfl) Tryz.underlying285 Tryz.underlying266 (by kernel_rfl) (by kernel_rfl) h
theorem star_es : "*" ++ "errors.errorString" = "*errors.errorString" := by decide
theorem row_es (u : TypeId) (h : Tryz.prog.typeName? 3 u = some "*errors.errorString") : u = 303 :=
  typeName_ptr_named (nm := "errors.errorString") (by rw [star_es]; kernel_rfl) (by kernel_rfl) (by decide) u (by rw [star_es]; exact h)
theorem globRan_of {r : List (String × DataW Unit)} {W : World} (h : laidMet Tryz.prog (("strconv.ErrRange", Rows.laid_strconv_ErrRange) :: r) W) : ∃ tp p, W.var? Tryz.prog "strconv.ErrRange" = some #[.iface tp p] := by
  obtain ⟨a, s, hv, _⟩ := laid_sentinel (g := 3) h (by kernel_rfl) (by kernel_rfl) Tryz.underlying217 row_es Tryz.underlying303 Tryz.underlying305 rfl rfl Tryz.underlying9 (by kernel_rfl) (by kernel_rfl)
  exact ⟨_, _, hv⟩
theorem globSyn_of {r : List (String × DataW Unit)} {W : World} (h : laidMet Tryz.prog (("strconv.ErrSyntax", Rows.laid_strconv_ErrSyntax) :: r) W) : ∃ tp p, W.var? Tryz.prog "strconv.ErrSyntax" = some #[.iface tp p] := by
  obtain ⟨a, s, hv, _⟩ := laid_sentinel (g := 2) h (by kernel_rfl) (by kernel_rfl) Tryz.underlying217 row_es Tryz.underlying303 Tryz.underlying305 rfl rfl Tryz.underlying9 (by kernel_rfl) (by kernel_rfl)
  exact ⟨_, _, hv⟩
end Go.PV
