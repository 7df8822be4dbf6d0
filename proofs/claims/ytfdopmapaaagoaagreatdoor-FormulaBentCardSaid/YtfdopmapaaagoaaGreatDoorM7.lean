/- Part of the proof. -/
import Derived.Test.YtfdopmapaaagoaaGreatDoorM6
import Derived.ChangeArms
import Derived.DataElems
import Derived.DataReads
import Derived.SizedLaws
import Derived.ChangeSlices
import Derived.WideShapes
import Derived.ChangeShapes
import Derived.JoinedOf
import Derived.SevenTiedAt
import Derived.Test.YtfdopmapaaagoaaGreatDoorRows
import Derived.LaidMore
import Derived.Stop.LaidErr
import Derived.Lib.LaidTab
import Derived.MakeChecks
import Derived.LaidLaws
set_option linter.unusedVariables false
set_option linter.unusedSimpArgs false
namespace Go.PV
open Go Go.Proofs
set_option maxRecDepth 100000
theorem lower_good (c : UInt8) : Good Tryz.prog 196 [.int .u8 c.toNat] [] [.bool (smallB c)] [] := by
  refine good_of hP Tryz.func196 (by kernel_rfl) (lv := [0, 2]) (js := []) ⟨rfl, rfl, rfl, rfl, rfl, rfl, _, rfl, ?_⟩
  repeat' (conv => whnf); refine branch_of (fun _ => ?_) (fun _ => ?_)
  all_goals (conv => whnf); exact fin0 (by simp_all [smallB, inB] <;> first | omega | (rw [Bool.eq_iff_iff]; simp; omega)) trivial
theorem upper_good (c : UInt8) : Good Tryz.prog 197 [.int .u8 c.toNat] [] [.bool (largeB c)] [] := by
  refine good_of hP Tryz.func197 (by kernel_rfl) (lv := [0, 2]) (js := []) ⟨rfl, rfl, rfl, rfl, rfl, rfl, _, rfl, ?_⟩
  repeat' (conv => whnf); refine branch_of (fun _ => ?_) (fun _ => ?_)
  all_goals (conv => whnf); exact fin0 (by simp_all [largeB, inB] <;> first | omega | (rw [Bool.eq_iff_iff]; simp; omega)) trivial
theorem rdigit_good (c : UInt8) : Good Tryz.prog 199 [.int .u8 c.toNat] [] [.bool (digitB c)] [] := by
  refine good_of hP Tryz.func199 (by kernel_rfl) (lv := [0, 2]) (js := []) ⟨rfl, rfl, rfl, rfl, rfl, rfl, _, rfl, ?_⟩
  repeat' (conv => whnf); refine branch_of (fun _ => ?_) (fun _ => ?_)
  all_goals (conv => whnf); exact fin0 (by simp_all [digitB, inB] <;> first | omega | (rw [Bool.eq_iff_iff]; simp; omega)) trivial
theorem inner_good (c : UInt8) : Good Tryz.prog 208 [.int .u8 c.toNat] [] [.bool (letterB c)] [] := by
  refine good_of hP Tryz.func208 (by kernel_rfl) (lv := [0, 2]) (js := []) ⟨rfl, rfl, rfl, rfl, rfl, rfl, _, rfl, ?_⟩
  conv => whnf
  refine call0 (lower_good _) ?_
  cases h1 : smallB c with
  | true => conv => whnf
            exact fin0 (by simp [letterB, h1]) trivial
  | false =>
  conv => whnf
  refine call0 (upper_good _) ?_
  cases h2 : largeB c with
  | true => conv => whnf
            exact fin0 (by simp [letterB, h2]) trivial
  | false =>
  conv => whnf
  refine call0 (rdigit_good _) ?_
  cases h3 : digitB c with
  | true => conv => whnf
            exact fin0 (by simp [letterB, h3]) trivial
  | false =>
  conv => whnf
  refine fin0 ?_ trivial
  congr 2
  simp [letterB, h1, h2, h3]; omega
theorem in_good (a b c : Int) : Good Tryz.prog 185 [.int .i64 a, .int .i64 b, .int .i64 c] [] [.bool (decide (b ≤ a ∧ a ≤ c))] [] := by
  refine good_of hP Tryz.func185 (by kernel_rfl) (lv := [0, 1, 2, 6]) (js := []) ⟨rfl, rfl, rfl, rfl, rfl, rfl, _, rfl, ?_⟩
  conv => whnf
  refine branch_of (fun h => ?_) (fun h => ?_)
  · have h := of_decide_eq_true h
    conv => whnf
    exact fin0 (by simp [h]) trivial
  · have h := of_decide_eq_false h
    conv => whnf
    exact fin0 (by simp; omega) trivial
theorem word_good (s : Bs) (large : Bool) (hs : s.length ≤ 1000000) : Good Tryz.prog 146 [.str s, .bool large] [] [.bool (refWordS large s)] [] := by
  refine good_of hP Tryz.func146 (by kernel_rfl) (lv := [0, 1, 4, 5, 26, 30, 37]) (js := [26]) ⟨rfl, rfl, rfl, rfl, rfl, rfl, _, rfl, ?_⟩
  conv => whnf
  refine seq_of hP [0, 1, 4, 5, 26, 30, 37] [26] [0, 4] [] [] (fun st => refWordS large s = s.all letterB ∧ st = ⟨[(0, .str s), (4, .bool false)], []⟩) ?_ ?_
  · conv => whnf
    refine call0 (in_good s.length 1 24) ?_
    conv => whnf
    refine branch_of (fun h => ?_) (fun h => ?_)
    · rw [Bool.not_eq_true'] at h
      have h := of_decide_eq_false h
      conv => whnf
      refine fin0 ?_ trivial
      have : (decide (1 ≤ s.length) && decide (s.length ≤ 24)) = false := by simp; omega
      rw [refWordS, this]; simp
    have h : 1 ≤ s.length ∧ s.length ≤ 24 := by
      rw [Bool.not_eq_false'] at h
      have h := of_decide_eq_true h; omega
    have h0 : 0 < s.length := h.1
    obtain ⟨c, r, hcr, hc⟩ := head_at h0
    have hw : refWordS large s = ((if large then largeB c else smallB c) && s.all letterB) := by
      have e1 : decide (1 ≤ s.length) = true := by simp; omega
      have e2 : decide (s.length ≤ 24) = true := by simp; omega
      rw [refWordS, e1, e2]
      have : headB (fun c => if large then largeB c else smallB c) s = if large then largeB c else smallB c := by rw [hcr]; rfl
      rw [this]; simp
    rw [hw]
    conv => whnf
    refine ⟨c, by rw [← hc]; exact idx h0 rfl, ?_⟩
    conv => whnf
    refine call0 (upper_good _) ?_
    cases large with
    | true =>
      cases hl : largeB c with
      | false =>
        conv => whnf
        exact fin0 rfl trivial
      | true =>
        conv => whnf
        exact ⟨rfl, rfl⟩
    | false =>
      cases hl : largeB c with
      | true =>
        conv => whnf
        refine fin0 ?_ trivial
        rw [if_neg (by simp), large_not_small hl]; rfl
      | false =>
        conv => whnf
        refine ⟨c, by rw [← hc]; exact idx h0 rfl, ?_⟩
        conv => whnf
        refine call0 (lower_good _) ?_
        cases hsm : smallB c with
        | false =>
          conv => whnf
          exact fin0 rfl trivial
        | true =>
          conv => whnf
          exact ⟨rfl, rfl⟩
  rintro st ⟨hw, rfl⟩
  rw [hw]
  conv => whnf
  refine loop_of hP [0, 1, 4, 5, 26, 30, 37] [26] [0, 4, 5] [] [] (fun n st => ∃ k : Nat, n = s.length - k ∧ k ≤ s.length ∧ s.all letterB = (s.drop k).all letterB ∧ st = ⟨[(0, .str s), (4, .bool false), (5, .int .i64 k)], []⟩) s.length ?_ ?_
  · conv => whnf
    exact ⟨0, rfl, Nat.zero_le _, rfl, rfl⟩
  · rintro n st ⟨k, rfl, hk, he, rfl⟩
    conv => whnf
    refine branch_of (fun h => ?_) (fun h => ?_)
    · have h := of_decide_eq_true h
      have hk' : k < s.length := by omega
      rw [all_drop hk'] at he
      conv => whnf
      refine ⟨s[k], idx hk' rfl, ?_⟩
      conv => whnf
      refine call0 (inner_good _) ?_
      cases hl : letterB s[k] with
      | false =>
        rw [hl] at he
        conv => whnf
        exact fin0 (by rw [he]; rfl) trivial
      | true =>
        rw [hl, Bool.true_and] at he
        conv => whnf
        refine ⟨s.length - (k + 1), by omega, k + 1, rfl, by omega, he, ?_⟩
        rw [wr (by omega) (by omega)]; rfl
    · have h := of_decide_eq_false h
      have : s.drop k = [] := List.drop_eq_nil_iff.2 (by omega)
      rw [this] at he
      conv => whnf
      exact fin0 (by rw [he]; rfl) trivial
theorem refNumber_good (s : Bs) (hs : s.length ≤ 1000000) : Good Tryz.prog 181 [.str s] [] [.int .i64 ((refNumS s).getD 0), .bool (refNumS s).isSome] [] := by
  refine good_of hP Tryz.func181 (by kernel_rfl) (lv := [0, 2, 3, 4, 5, 6, 7, 8, 17, 22, 26, 33, 48, 53, 54]) (js := [200001, 17]) ⟨rfl, rfl, rfl, rfl, rfl, rfl, _, rfl, ?_⟩
  conv => whnf
  refine seq_of hP [0, 2, 3, 4, 5, 6, 7, 8, 17, 22, 26, 33, 48, 53, 54] [200001, 17] [0, 2, 3, 4] [] [] (fun st => st = ⟨[(0, .str s), (2, .int .i64 0), (3, .bool false), (4, .bool (signed s))], []⟩) ?_ ?_
  · conv => whnf
    refine branch_of (fun h => ?_) (fun h => ?_)
    · have h := of_decide_eq_true h
      obtain ⟨c, r, rfl, _⟩ := head_at (s := s) (by omega)
      conv => whnf
      refine ⟨c, ⟨by omega, rfl⟩, ?_⟩
      conv => whnf
      have : signed (c :: r) = decide ((c.toNat : Int) = 45) := by show decide _ = decide _; rw [decide_eq_decide]; omega
      rw [this]
    · have h := of_decide_eq_false h
      have hs0 : s = [] := List.eq_nil_of_length_eq_zero (by omega)
      subst hs0
      conv => whnf
      rfl
  rintro st rfl
  conv => whnf
  refine seq_of hP [0, 2, 3, 4, 5, 6, 7, 8, 17, 22, 26, 33, 48, 53, 54] [200001, 17] [0, 2, 3, 4] [] [] (fun st => st = ⟨[(0, .str (unS s)), (2, .int .i64 0), (3, .bool false), (4, .bool (signed s))], []⟩) ?_ ?_
  · conv => whnf
    cases hsg : signed s with
    | true =>
      have hl : 0 < s.length := by
        cases s with
        | nil => simp [signed, headB] at hsg
        | cons c r => simp
      conv => whnf
      refine ⟨⟨⟩, by dsimp only; omega, ?_⟩
      conv => whnf
      rw [unS, hsg]; rfl
    | false =>
      conv => whnf
      rw [unS, hsg]; rfl
  rintro st rfl
  have hul : (unS s).length ≤ s.length := by unfold unS; split <;> simp
  conv => whnf
  refine branch_of (fun h => ?_) (fun h => ?_)
  · have h := of_decide_eq_true h
    have h0 : unS s = [] := List.eq_nil_of_length_eq_zero (by omega)
    conv => whnf
    exact fin0 (by simp [refNumS, h0]) trivial
  have h := of_decide_eq_false h
  have hne : unS s ≠ [] := fun e => h (by rw [e]; rfl)
  conv => whnf
  generalize hu : unS s = u at *
  refine loop_of hP [0, 2, 3, 4, 5, 6, 7, 8, 17, 22, 26, 33, 48, 53, 54] [200001, 17] [0, 2, 3, 4, 5, 6, 7] [] [] (fun m st => ∃ (k : Nat) (n : Nat) (over : Bool), m = u.length - k ∧ k ≤ u.length ∧ n ≤ 4611686018427387904 ∧ u.all digitB = (u.drop k).all digitB ∧ (over = true → 4611686018427387904 < digN (u.take k)) ∧ (over = false → n = digN (u.take k)) ∧
    st = ⟨[(0, .str u), (2, .int .i64 0), (3, .bool false), (4, .bool (signed s)), (5, .int .i64 n), (6, .bool over), (7, .int .i64 k)], []⟩) u.length ?_ ?_
  · conv => whnf
    exact ⟨0, 0, false, rfl, Nat.zero_le _, by omega, rfl, by simp, fun _ => rfl, rfl⟩
  · rintro m st ⟨k, n, over, rfl, hk, hn, he, ho1, ho2, rfl⟩
    conv => whnf
    refine branch_of (fun h => ?_) (fun h => ?_)
    · have h := of_decide_eq_true h
      have hk' : k < u.length := by omega
      rw [all_drop hk'] at he
      conv => whnf
      refine ⟨u[k], idx hk' rfl, ?_⟩
      conv => whnf
      refine call0 (rdigit_good _) ?_
      have hdig := digN_snoc u hk'
      cases hd : digitB u[k] with
      | false =>
        conv => whnf
        rw [hd] at he
        exact fin0 (by simp [refNumS, hu, he]) trivial
      | true =>
        rw [hd, Bool.true_and] at he
        have hd := hd
        simp only [digitB, inB_iff] at hd
        conv => whnf
        refine ⟨u[k], idx hk' rfl, ?_⟩
        have hw1 : IntKind.i64.wrap (IntKind.u8.wrap ((u[k].toNat : Int) - 48)) = (u[k].toNat - 48 : Nat) := by
          have : IntKind.u8.wrap ((u[k].toNat : Int) - 48) = (u[k].toNat - 48 : Nat) := by simp [IntKind.wrap, IntKind.bits, IntKind.signed]; omega
          rw [this, wr (by omega) (by omega)]
        generalize hD : u[k].toNat - 48 = d at *
        have hw2 : IntKind.i64.wrap ((k : Int) + 1) = (k + 1 : Nat) := by rw [wr (by omega) (by omega)]; rfl
        cases over with
        | true =>
          conv => whnf
          refine ⟨u.length - (k + 1), by omega, k + 1, n, true, rfl, by omega, hn, he, fun _ => ?_, by simp, ?_⟩
          · have := ho1 rfl; omega
          · rw [hw2]
        | false =>
          conv => whnf
          have hn1 := ho2 rfl
          have hw3 : IntKind.i64.wrap ((IntKind.i64.wrap (4611686018427387904 - (d : Int))).tdiv 10) = (4611686018427387904 - d) / 10 := by
            have hd9 : d ≤ 9 := by omega
            rw [wr (n := 4611686018427387904 - (d : Int)) (by omega) (by omega), Int.tdiv_eq_ediv_of_nonneg (by omega), wr (by omega) (by omega)]
          rw [hw1]
          refine ⟨⟨⟩, by decide, ?_⟩
          rw [hw3]
          conv => whnf
          cases hov : decide ((4611686018427387904 - (d : Int)) / 10 < n) with
          | true =>
            have hov := of_decide_eq_true hov
            conv => whnf
            refine ⟨u.length - (k + 1), by omega, k + 1, n, true, rfl, by omega, hn, he, fun _ => ?_, by simp, ?_⟩
            · omega
            · rw [hw2]
          | false =>
            have hov := of_decide_eq_false hov
            conv => whnf
            refine ⟨u.length - (k + 1), by omega, k + 1, 10 * n + d, false, rfl, by omega, by omega, he, by simp, fun _ => by omega, ?_⟩
            rw [hw2, wr (n := 10 * (n : Int)) (by omega) (by omega), wr (by omega) (by omega)]; rfl
    · have h := of_decide_eq_false h
      have hku : k = u.length := by omega
      subst hku
      have hal : u.all digitB = true := by rw [he]; simp
      rw [List.take_length] at ho1 ho2
      conv => whnf
      cases over with
      | true =>
        have := ho1 rfl
        conv => whnf
        exact fin0 (by simp [refNumS, hu, this]) trivial
      | false =>
        have hn2 := ho2 rfl
        conv => whnf
        cases hsg : signed s with
        | true =>
          conv => whnf
          refine fin0 ?_ trivial
          rw [wr (by omega) (by omega)]
          have hle : ¬ 4611686018427387904 < n := by omega
          simp [refNumS, hu, hne, hal, hsg, ← hn2, hle]
        | false =>
          conv => whnf
          refine fin0 ?_ trivial
          have hle : ¬ 4611686018427387904 < n := by omega
          simp [refNumS, hu, hne, hal, hsg, ← hn2, hle]
theorem refQuoted_good (s : Bs) (hs : s.length ≤ 1000000) : Good Tryz.prog 201 [.str s] [] [.str (refQuotedS s).1, .bool (refQuotedS s).2] [] := by
  refine good_of hP Tryz.func201 (by kernel_rfl) (lv := [0, 2, 3, 4, 5, 13, 17, 20, 36, 58, 59]) (js := [13]) ⟨rfl, rfl, rfl, rfl, rfl, rfl, _, rfl, ?_⟩
  conv => whnf
  refine seq_of hP [0, 2, 3, 4, 5, 13, 17, 20, 36, 58, 59] [13] [0, 2, 3] [] [] (fun st => refQuotedS s = refQGo [] (s.drop 1) ∧ st = ⟨[(0, .str s), (2, .str []), (3, .bool false)], []⟩) ?_ ?_
  · conv => whnf
    refine branch_of (fun h => ?_) (fun h => ?_)
    · have h := of_decide_eq_true h
      conv => whnf
      refine fin0 ?_ trivial
      match s, h with
      | [], _ => rfl
      | [c], _ => rfl
      | c :: d :: r, h => simp at h; omega
    · have h := of_decide_eq_false h
      match s, h with
      | [], h => simp at h
      | [c], h => simp at h
      | c :: d :: r, h =>
        conv => whnf
        refine ⟨c, ⟨by omega, rfl⟩, ?_⟩
        conv => whnf
        refine branch_of (fun h1 => ?_) (fun h1 => ?_)
        · rw [Bool.not_eq_true'] at h1
          have h1 := of_decide_eq_false h1
          conv => whnf
          refine fin0 ?_ trivial
          rw [refQuotedS, if_neg (by omega)]
        · rw [Bool.not_eq_false'] at h1
          have h1 := of_decide_eq_true h1
          conv => whnf
          exact ⟨by rw [refQuotedS, if_pos (by omega)]; rfl, rfl⟩
  rintro st ⟨hq, rfl⟩
  conv => whnf
  refine loop_of hP [0, 2, 3, 4, 5, 13, 17, 20, 36, 58, 59] [13] [0, 2, 3, 4, 5] [] [] (fun n st => ∃ (k : Nat) (out : Bs), n = s.length + 1 - k ∧ 1 ≤ k ∧ (k ≤ s.length ∨ k = 1) ∧ out.length ≤ k ∧ refQuotedS s = refQGo out (s.drop k) ∧ st = ⟨[(0, .str s), (2, .str []), (3, .bool false), (4, .str out), (5, .int .i64 k)], []⟩) s.length ?_ ?_
  · conv => whnf
    exact ⟨1, [], by omega, by omega, .inr rfl, Nat.zero_le _, hq, rfl⟩
  · rintro n st ⟨k, out, rfl, hk0, hk, hout, he, rfl⟩
    conv => whnf
    refine branch_of (fun h => ?_) (fun h => ?_)
    · have h := of_decide_eq_true h
      have hk' : k < s.length := by omega
      have hw1 : IntKind.i64.wrap ((k : Int) + 1) = (k + 1 : Nat) := by rw [wr (by omega) (by omega)]; rfl
      rw [drop_cons hk'] at he
      conv => whnf
      refine ⟨s[k], idx hk' rfl, ?_⟩
      conv => whnf
      refine branch_of (fun h1 => ?_) (fun h1 => ?_)
      · have h1 := of_decide_eq_true h1
        rw [refQ_quote (by omega)] at he
        have hr : decide (s.drop (k + 1) = []) = decide ((k : Int) = s.length - 1) := by
          rw [decide_eq_decide, List.drop_eq_nil_iff]; omega
        rw [hr] at he
        conv => whnf
        rw [wr (by omega) (by omega)]
        refine branch_of (fun h2 => ?_) (fun h2 => ?_)
        · conv => whnf
          refine fin0 ?_ trivial
          rw [he, h2]; simp; omega
        · conv => whnf
          refine fin0 ?_ trivial
          rw [he, h2]; simp
      · have h1 := of_decide_eq_false h1
        conv => whnf
        refine ⟨s[k], idx hk' rfl, ?_⟩
        conv => whnf
        refine branch_of (fun h2 => ?_) (fun h2 => ?_)
        · have h2 := of_decide_eq_true h2
          conv => whnf
          rw [hw1]
          refine branch_of (fun h3 => ?_) (fun h3 => ?_)
          · have h3 := of_decide_eq_true h3
            have : s.drop (k + 1) = [] := List.drop_eq_nil_iff.2 (by omega)
            rw [this, refQ_bad (by omega) (.inl ⟨by omega, rfl⟩)] at he
            conv => whnf
            exact fin0 (by rw [he]) trivial
          · have h3 := of_decide_eq_false h3
            have hk2 : k + 1 < s.length := by omega
            have hw2 : IntKind.i64.wrap (((k + 1 : Nat) : Int) + 1) = (k + 2 : Nat) := by rw [wr (by omega) (by omega)]; rfl
            rw [drop_cons hk2] at he
            conv => whnf
            refine ⟨s[k + 1], idx hk2 rfl, ?_⟩
            have esc : escB s[k + 1] = true → ∃ m, m < s.length + 1 - k ∧ ∃ (k' : Nat) (out' : Bs), m = s.length + 1 - k' ∧ 1 ≤ k' ∧ (k' ≤ s.length ∨ k' = 1) ∧ out'.length ≤ k' ∧ refQuotedS s = refQGo out' (s.drop k') ∧ (⟨[(0, .str s), (2, .str []), (3, .bool false), (4, .str (out ++ (s.take (k + 2)).drop (k + 1))), (5, .int .i64 ((k + 2 : Nat) : Int))], []⟩ : St) = ⟨[(0, .str s), (2, .str []), (3, .bool false), (4, .str out'), (5, .int .i64 k')], []⟩ := fun hd => by
              refine ⟨s.length + 1 - (k + 2), by omega, k + 2, out ++ [s[k + 1]], rfl, by omega, by omega, by simp; omega, by rw [he, refQ_esc (by omega) hd], ?_⟩
              rw [sub1 hk2]
            conv => whnf
            refine branch_of (fun h4 => ?_) (fun h4 => ?_)
            · rw [Bool.not_eq_true'] at h4
              have h4 := of_decide_eq_false h4
              conv => whnf
              refine ⟨s[k + 1], idx hk2 rfl, ?_⟩
              conv => whnf
              refine branch_of (fun h5 => ?_) (fun h5 => ?_)
              · rw [Bool.not_eq_true'] at h5
                have h5 := of_decide_eq_false h5
                rw [refQ_bad (by omega) (.inl ⟨by omega, by simp [headB, escB]; omega⟩)] at he
                conv => whnf
                exact fin0 (by rw [he]) trivial
              · rw [Bool.not_eq_false'] at h5
                have h5 := of_decide_eq_true h5
                conv => whnf
                rw [hw2]
                refine ⟨⟨⟩, by dsimp only; omega, ?_⟩
                conv => whnf
                refine ⟨⟨⟩, by dsimp only; simp; omega, ?_⟩
                conv => whnf
                rw [hw2]
                exact esc (by simp [escB]; omega)
            · rw [Bool.not_eq_false'] at h4
              have h4 := of_decide_eq_true h4
              conv => whnf
              rw [hw2]
              refine ⟨⟨⟩, by dsimp only; omega, ?_⟩
              conv => whnf
              refine ⟨⟨⟩, by dsimp only; simp; omega, ?_⟩
              conv => whnf
              rw [hw2]
              exact esc (by simp [escB]; omega)
        · have h2 := of_decide_eq_false h2
          conv => whnf
          refine ⟨s[k], idx hk' rfl, ?_⟩
          conv => whnf
          have hwb : IntKind.i64.wrap (s[k].toNat : Int) = s[k].toNat := by have := UInt8.toNat_lt s[k]; rw [wr (by omega) (by omega)]
          rw [hwb]
          refine call0 (in_good _ 32 126) ?_
          conv => whnf
          refine branch_of (fun h3 => ?_) (fun h3 => ?_)
          · rw [Bool.not_eq_true'] at h3
            have h3 := of_decide_eq_false h3
            rw [refQ_bad (by omega) (.inr ⟨by omega, by simp only [plainB, inB_no]; omega⟩)] at he
            conv => whnf
            exact fin0 (by rw [he]) trivial
          · rw [Bool.not_eq_false'] at h3
            have h3 := of_decide_eq_true h3
            rw [refQ_step (by omega) (by omega) (by simp only [plainB, inB_iff]; omega)] at he
            conv => whnf
            rw [hw1]
            refine ⟨⟨⟩, by dsimp only; omega, ?_⟩
            conv => whnf
            refine ⟨⟨⟩, by dsimp only; simp; omega, ?_⟩
            conv => whnf
            rw [hw1]
            refine ⟨s.length + 1 - (k + 1), by omega, k + 1, out ++ [s[k]], rfl, by omega, by omega, by simp; omega, he, ?_⟩
            show (⟨[(0, .str s), (2, .str []), (3, .bool false), (4, .str (out ++ (s.take (k + 1)).drop k)), (5, .int .i64 ((k + 1 : Nat) : Int))], []⟩ : St) = _
            rw [sub1 hk']
    · have h := of_decide_eq_false h
      have : s.drop k = [] := List.drop_eq_nil_iff.2 (by omega)
      rw [this] at he
      conv => whnf
      exact fin0 (by rw [he]; rfl) trivial
end Go.PV
namespace Go.PV
open Go Go.Proofs
set_option maxRecDepth 100000
theorem inner9_good (c : UInt8) : Good Tryz.prog 198 [.int .u8 c.toNat] [] [.bool (letterB c)] [] := by
  refine good_of hP Tryz.func198 (by kernel_rfl) (lv := [0, 2]) (js := []) ⟨rfl, rfl, rfl, rfl, rfl, rfl, _, rfl, ?_⟩
  conv => whnf
  refine call0 (lower_good _) ?_
  cases h1 : smallB c with
  | true => conv => whnf
            exact fin0 (by simp [letterB, h1]) trivial
  | false =>
  conv => whnf
  refine call0 (upper_good _) ?_
  cases h2 : largeB c with
  | true => conv => whnf
            exact fin0 (by simp [letterB, h2]) trivial
  | false =>
  conv => whnf
  refine call0 (rdigit_good _) ?_
  cases h3 : digitB c with
  | true => conv => whnf
            exact fin0 (by simp [letterB, h3]) trivial
  | false =>
  conv => whnf
  refine fin0 ?_ trivial
  congr 2
  simp [letterB, h1, h2, h3]; omega
theorem single_good (c : UInt8) : Good Tryz.prog 200 [.int .u8 c.toNat] [] [.bool (decide (c ∈ signs1))] [] := by
  refine good_of hP Tryz.func200 (by kernel_rfl) (lv := [0, 2, 3, 4, 8, 15]) (js := []) ⟨rfl, rfl, rfl, rfl, rfl, rfl, _, rfl, ?_⟩
  conv => whnf
  refine loop_of hP [0, 2, 3, 4, 8, 15] [] [0, 2, 3, 4] [] [] (fun n st => ∃ k : Nat, n = 13 - k ∧ k ≤ 13 ∧ (c ∈ signs1 ↔ c ∈ signs1.drop k) ∧ st = ⟨[(0, .int .u8 c.toNat), (2, .bool false), (3, .str signs1), (4, .int .i64 k)], []⟩) 13 ?_ ?_
  · conv => whnf
    exact ⟨0, rfl, by omega, by rw [List.drop_zero], rfl⟩
  · rintro n st ⟨k, rfl, hk, he, rfl⟩
    have hlen : signs1.length = 13 := rfl
    conv => whnf
    refine branch_of (fun h => ?_) (fun h => ?_)
    · have h := of_decide_eq_true h
      rw [hlen] at h
      have hk' : k < signs1.length := by rw [hlen]; omega
      rw [drop_cons hk', List.mem_cons] at he
      conv => whnf
      refine ⟨signs1[k], idx hk' rfl, ?_⟩
      conv => whnf
      refine branch_of (fun h1 => ?_) (fun h1 => ?_)
      · have h1 := of_decide_eq_true h1
        have : c = signs1[k] := UInt8.toNat_inj.1 (by omega)
        conv => whnf
        exact fin0 (by rw [decide_eq_true (he.2 (.inl this))]) trivial
      · have h1 := of_decide_eq_false h1
        have : ¬ c = signs1[k] := fun e => h1 (by rw [← e])
        conv => whnf
        refine ⟨13 - (k + 1), by omega, k + 1, rfl, by omega, by rw [he]; simp [this], ?_⟩
        rw [wr (by omega) (by omega)]; rfl
    · have h := of_decide_eq_false h
      rw [hlen] at h
      have hk3 : k = 13 := by omega
      subst hk3
      have hno : ¬ c ∈ signs1 := fun hm => by have := he.1 hm; simp [signs1] at this
      conv => whnf
      exact fin0 (by rw [decide_eq_false hno]) trivial
theorem right_good (k : Int) (t : Bs) (hs : t.length ≤ 1000000) : Good Tryz.prog 132 [.int .i64 k, .str t] [] [.bool (refRight k t)] [] := by
  refine good_of hP Tryz.func132 (by kernel_rfl) (lv := [0, 1, 4, 6, 8, 9, 10, 14, 18, 26]) (js := []) ⟨rfl, rfl, rfl, rfl, rfl, rfl, _, rfl, ?_⟩
  conv => whnf
  refine branch_of (fun h1 => ?_) (fun h1 => ?_)
  · have h1 := of_decide_eq_true h1
    conv => whnf
    refine call0 (word_good t false hs) ?_
    conv => whnf
    exact fin0 (by rw [refRight, if_pos h1]) trivial
  have h1 := of_decide_eq_false h1
  conv => whnf
  refine branch_of (fun h2 => ?_) (fun h2 => ?_)
  · have h2 := of_decide_eq_true h2
    conv => whnf
    refine call0 (word_good t true hs) ?_
    conv => whnf
    exact fin0 (by rw [refRight, if_neg h1, if_pos h2]) trivial
  have h2 := of_decide_eq_false h2
  conv => whnf
  refine branch_of (fun h3 => ?_) (fun h3 => ?_)
  · have h3 := of_decide_eq_true h3
    conv => whnf
    refine call0 (refNumber_good t hs) ?_
    conv => whnf
    exact fin0 (by rw [refRight, if_neg h1, if_neg h2, if_pos h3]) trivial
  have h3 := of_decide_eq_false h3
  conv => whnf
  refine branch_of (fun h4 => ?_) (fun h4 => ?_)
  · have h4 := of_decide_eq_true h4
    conv => whnf
    refine call0 (refQuoted_good t hs) ?_
    conv => whnf
    exact fin0 (by rw [refRight, if_neg h1, if_neg h2, if_neg h3, if_pos h4]) trivial
  have h4 := of_decide_eq_false h4
  have e : refRight k t = ((decide (t.length = 1) && headB (fun c => decide (c ∈ signs1)) t) || twoB t) := by rw [refRight, if_neg h1, if_neg h2, if_neg h3, if_neg h4]
  rw [e]
  conv => whnf
  refine branch_of (fun h => ?_) (fun h => ?_)
  · have h := of_decide_eq_true h
    obtain ⟨c, r, rfl, _⟩ := head_at (s := t) (by omega)
    have hr : r = [] := by simp at h; exact List.eq_nil_of_length_eq_zero (by omega)
    subst hr
    conv => whnf
    refine ⟨c, ⟨by omega, rfl⟩, ?_⟩
    conv => whnf
    refine call0 (single_good c) ?_
    have ex : (decide (([c] : Bs).length = 1) && headB (fun c => decide (c ∈ signs1)) [c]) = decide (c ∈ signs1) := rfl
    have tw : twoB [c] = false := by simp [twoB]
    rw [ex, tw, Bool.or_false]
    cases hm : decide (c ∈ signs1) with
    | true =>
      conv => whnf
      exact fin0 rfl trivial
    | false =>
      conv => whnf
      refine branch_of (fun h => absurd (of_decide_eq_true h) (by simp)) (fun _ => ?_)
      conv => whnf
      refine branch_of (fun h => absurd (of_decide_eq_true h) (by simp)) (fun _ => ?_)
      conv => whnf
      refine branch_of (fun h => absurd (of_decide_eq_true h) (by simp)) (fun _ => ?_)
      conv => whnf
      exact fin0 (by simp) trivial
  · have h := of_decide_eq_false h
    have ex : (decide (t.length = 1) && headB (fun c => decide (c ∈ signs1)) t) = false := by rw [decide_eq_false (by omega)]; rfl
    conv => whnf
    refine branch_of (fun h => ?_) (fun t0 => ?_)
    · have h : t = [33, 61] := of_decide_eq_true h
      conv => whnf
      exact fin0 (by subst h; rfl) trivial
    have t0 : t ≠ [33, 61] := of_decide_eq_false t0
    conv => whnf
    refine branch_of (fun h => ?_) (fun t1 => ?_)
    · have h : t = [60, 61] := of_decide_eq_true h
      conv => whnf
      exact fin0 (by subst h; rfl) trivial
    have t1 : t ≠ [60, 61] := of_decide_eq_false t1
    conv => whnf
    refine branch_of (fun h => ?_) (fun t2 => ?_)
    · have h : t = [45, 62] := of_decide_eq_true h
      conv => whnf
      exact fin0 (by subst h; rfl) trivial
    have t2 : t ≠ [45, 62] := of_decide_eq_false t2
    conv => whnf
    refine fin0 ?_ trivial
    have ht : twoB t = decide (t = [61, 62]) := by simp [twoB, t0, t1, t2]
    rw [ex, Bool.false_or, ht]
theorem rsign_good (s : Bs) (hs : s.length ≤ 100000) (h0 : s ≠ []) : Good Tryz.prog 131 [.str s] [] [.int .i64 (refSign s).1, .int .i64 (refSign s).2] [] := by
  refine good_of hP Tryz.func131 (by kernel_rfl) (lv := [0, 2, 3, 4, 5, 6, 9, 25, 29, 32, 58, 62, 74, 78, 86, 91, 107, 109]) (js := [200003, 200009, 100001, 100003, 100005, 91]) ⟨rfl, rfl, rfl, rfl, rfl, rfl, _, rfl, ?_⟩
  have hl : 0 < s.length := List.length_pos_iff.2 h0
  obtain ⟨c, r, hcr, hc⟩ := head_at hl
  have hrl : s.length = r.length + 1 := by rw [hcr]; rfl
  have hdr : ∀ k, s.drop (k + 1) = r.drop k := fun k => by rw [hcr]; rfl
  conv => whnf
  refine ⟨c, by rw [← hc]; exact idx hl rfl, ?_⟩
  conv => whnf
  refine seq_of hP [0, 2, 3, 4, 5, 6, 9, 25, 29, 32, 58, 62, 74, 78, 86, 91, 107, 109] [200003, 200009, 100001, 100003, 100005, 91] [0, 2, 3, 4, 5, 9] [] [] (fun st => st = ⟨[(0, .str s), (2, .int .i64 0), (3, .int .i64 0), (4, .int .u8 c.toNat), (5, .int .i64 1), (9, .bool (decide (smallB c ∨ largeB c)))], []⟩) ?_ ?_
  · conv => whnf
    refine call0 (lower_good _) ?_
    cases h1 : smallB c with
    | true => conv => whnf
              rfl
    | false =>
      conv => whnf
      refine call0 (upper_good _) ?_
      conv => whnf
      simp only [Bool.false_eq_true, false_or, Bool.decide_eq_true]
  rintro st rfl
  conv => whnf
  refine branch_of (fun h => ?_) (fun h => ?_)
  · have h := of_decide_eq_true h
    have e : refSign s = (if smallB c then 1 else 2, 1 + (r.takeWhile letterB).length) := by rw [hcr, refSign, if_pos h]
    have htl := (List.takeWhile_prefix (p := letterB) (l := r)).length_le
    conv => whnf
    refine seq_of hP [0, 2, 3, 4, 5, 6, 9, 25, 29, 32, 58, 62, 74, 78, 86, 91, 107, 109] [200003, 200009, 100001, 100003, 100005, 91] [0, 2, 3, 4, 5] [] [] (fun st => st = ⟨[(0, .str s), (2, .int .i64 0), (3, .int .i64 0), (4, .int .u8 c.toNat), (5, .int .i64 (1 + (r.takeWhile letterB).length : Nat))], []⟩) ?_ ?_
    · conv => whnf
      refine loop_of hP [0, 2, 3, 4, 5, 6, 9, 25, 29, 32, 58, 62, 74, 78, 86, 91, 107, 109] [200003, 200009, 100001, 100003, 100005, 91] [0, 2, 3, 4, 5] [] [] (fun m st => ∃ k : Nat, m = s.length - k ∧ 1 ≤ k ∧ k ≤ s.length ∧ 1 + (r.takeWhile letterB).length = k + ((s.drop k).takeWhile letterB).length ∧ st = ⟨[(0, .str s), (2, .int .i64 0), (3, .int .i64 0), (4, .int .u8 c.toNat), (5, .int .i64 k)], []⟩) (s.length - 1) ?_ ?_
      · conv => whnf
        exact ⟨1, rfl, by omega, by omega, by rw [hdr 0, List.drop_zero], rfl⟩
      · rintro m st ⟨k, rfl, hk1, hk, he, rfl⟩
        conv => whnf
        refine branch_of (fun h2 => ?_) (fun h2 => ?_)
        · have h2 := of_decide_eq_true h2
          have hk' : k < s.length := by omega
          rw [takeWhile_drop hk'] at he
          conv => whnf
          refine ⟨s[k], idx hk' rfl, ?_⟩
          conv => whnf
          refine call0 (inner9_good _) ?_
          cases hp : letterB s[k] with
          | true =>
            rw [hp, if_pos rfl, List.length_cons] at he
            conv => whnf
            refine ⟨s.length - (k + 1), by omega, k + 1, rfl, by omega, by omega, by omega, ?_⟩
            rw [wr (by omega) (by omega)]; rfl
          | false =>
            rw [hp, if_neg (by simp)] at he
            conv => whnf
            rw [he]; rfl
        · have h2 := of_decide_eq_false h2
          have hd : s.drop k = [] := List.drop_eq_nil_iff.2 (by omega)
          rw [hd] at he
          conv => whnf
          rw [he]; rfl
    rintro st rfl
    conv => whnf
    refine call0 (lower_good _) ?_
    cases hsm : smallB c with
    | true =>
      rw [hsm] at e
      conv => whnf
      exact fin0 (by rw [e]; rfl) trivial
    | false =>
      rw [hsm] at e
      conv => whnf
      exact fin0 (by rw [e]; rfl) trivial
  · have hn := of_decide_eq_false h
    conv => whnf
    refine seq_of hP [0, 2, 3, 4, 5, 6, 9, 25, 29, 32, 58, 62, 74, 78, 86, 91, 107, 109] [200003, 200009, 100001, 100003, 100005, 91] [0, 2, 3, 4, 5, 32] [] [] (fun st => st = ⟨[(0, .str s), (2, .int .i64 0), (3, .int .i64 0), (4, .int .u8 c.toNat), (5, .int .i64 1), (32, .bool (decide (digitB c ∨ (c.toNat = 45 ∧ headB digitB r))))], []⟩) ?_ ?_
    · conv => whnf
      refine call0 (rdigit_good _) ?_
      cases h1 : digitB c with
      | true => conv => whnf
                rfl
      | false =>
        conv => whnf
        refine branch_of (fun h2 => ?_) (fun h2 => ?_)
        · have h2 : c.toNat = 45 := by have := of_decide_eq_true h2; omega
          conv => whnf
          refine branch_of (fun h3 => ?_) (fun h3 => ?_)
          · have h3 := of_decide_eq_true h3
            have h31 : 1 < s.length := by omega
            have hd : headB digitB r = digitB s[1] := by
              have : r = s[1] :: s.drop 2 := by
                have e := drop_cons h31
                conv at e => lhs; rw [hcr]
                simpa using e
              rw [this]; rfl
            conv => whnf
            refine ⟨s[1], idx h31 rfl, ?_⟩
            conv => whnf
            refine call0 (rdigit_good _) ?_
            conv => whnf
            simp only [h2, hd, Bool.false_eq_true, false_or, true_and, Bool.decide_eq_true]
          · have h3 := of_decide_eq_false h3
            have hr : r = [] := by
              rw [hcr] at h3; simp at h3
              exact List.eq_nil_of_length_eq_zero (by omega)
            subst hr
            conv => whnf
            simp only [h2, headB, Bool.false_eq_true, and_false, or_false, decide_false]
        · have h2 : c.toNat ≠ 45 := by have := of_decide_eq_false h2; omega
          conv => whnf
          simp only [h2, false_and, Bool.false_eq_true, or_false, decide_false]
    rintro st rfl
    conv => whnf
    refine branch_of (fun h => ?_) (fun h => ?_)
    · have h := of_decide_eq_true h
      have e : refSign s = (3, 1 + (r.takeWhile digitB).length) := by rw [hcr, refSign, if_neg hn, if_pos h]
      have htl := (List.takeWhile_prefix (p := digitB) (l := r)).length_le
      conv => whnf
      refine seq_of hP [0, 2, 3, 4, 5, 6, 9, 25, 29, 32, 58, 62, 74, 78, 86, 91, 107, 109] [200003, 200009, 100001, 100003, 100005, 91] [0, 2, 3, 4, 5] [] [] (fun st => st = ⟨[(0, .str s), (2, .int .i64 0), (3, .int .i64 0), (4, .int .u8 c.toNat), (5, .int .i64 (1 + (r.takeWhile digitB).length : Nat))], []⟩) ?_ ?_
      · conv => whnf
        refine loop_of hP [0, 2, 3, 4, 5, 6, 9, 25, 29, 32, 58, 62, 74, 78, 86, 91, 107, 109] [200003, 200009, 100001, 100003, 100005, 91] [0, 2, 3, 4, 5] [] [] (fun m st => ∃ k : Nat, m = s.length - k ∧ 1 ≤ k ∧ k ≤ s.length ∧ 1 + (r.takeWhile digitB).length = k + ((s.drop k).takeWhile digitB).length ∧ st = ⟨[(0, .str s), (2, .int .i64 0), (3, .int .i64 0), (4, .int .u8 c.toNat), (5, .int .i64 k)], []⟩) (s.length - 1) ?_ ?_
        · conv => whnf
          exact ⟨1, rfl, by omega, by omega, by rw [hdr 0, List.drop_zero], rfl⟩
        · rintro m st ⟨k, rfl, hk1, hk, he, rfl⟩
          conv => whnf
          refine branch_of (fun h2 => ?_) (fun h2 => ?_)
          · have h2 := of_decide_eq_true h2
            have hk' : k < s.length := by omega
            rw [takeWhile_drop hk'] at he
            conv => whnf
            refine ⟨s[k], idx hk' rfl, ?_⟩
            conv => whnf
            refine call0 (rdigit_good _) ?_
            cases hp : digitB s[k] with
            | true =>
              rw [hp, if_pos rfl, List.length_cons] at he
              conv => whnf
              refine ⟨s.length - (k + 1), by omega, k + 1, rfl, by omega, by omega, by omega, ?_⟩
              rw [wr (by omega) (by omega)]; rfl
            | false =>
              rw [hp, if_neg (by simp)] at he
              conv => whnf
              rw [he]; rfl
          · have h2 := of_decide_eq_false h2
            have hd : s.drop k = [] := List.drop_eq_nil_iff.2 (by omega)
            rw [hd] at he
            conv => whnf
            rw [he]; rfl
      rintro st rfl
      conv => whnf
      exact fin0 (by rw [e]) trivial
    · have hn2 := of_decide_eq_false h
      conv => whnf
      refine branch_of (fun h => ?_) (fun h => ?_)
      · have h : c.toNat = 34 := by have := of_decide_eq_true h; omega
        have e : refSign s = if refText 1 r = 0 then (0, 0) else (4, refText 1 r) := by rw [hcr, refSign, if_neg hn, if_neg hn2, if_pos h]
        conv => whnf
        refine seq_of hP [0, 2, 3, 4, 5, 6, 9, 25, 29, 32, 58, 62, 74, 78, 86, 91, 107, 109] [200003, 200009, 100001, 100003, 100005, 91] [0, 2, 3, 5] [] [] (fun st => ∃ q : Nat, q ≤ s.length + 1 ∧ ((q < s.length ∧ refText 1 r = q + 1) ∨ (s.length ≤ q ∧ refText 1 r = 0)) ∧ st = ⟨[(0, .str s), (2, .int .i64 0), (3, .int .i64 0), (5, .int .i64 q)], []⟩) ?_ ?_
        · conv => whnf
          refine loop_of hP [0, 2, 3, 4, 5, 6, 9, 25, 29, 32, 58, 62, 74, 78, 86, 91, 107, 109] [200003, 200009, 100001, 100003, 100005, 91] [0, 2, 3, 5] [] [] (fun m st => ∃ k : Nat, m = s.length + 1 - k ∧ 1 ≤ k ∧ k ≤ s.length + 1 ∧ refText 1 r = refText k (s.drop k) ∧ st = ⟨[(0, .str s), (2, .int .i64 0), (3, .int .i64 0), (5, .int .i64 k)], []⟩) s.length ?_ ?_
          · conv => whnf
            exact ⟨1, by omega, by omega, by omega, by rw [hdr 0, List.drop_zero], rfl⟩
          · rintro m st ⟨k, rfl, hk1, hk, he, rfl⟩
            conv => whnf
            refine branch_of (fun h2 => ?_) (fun h2 => ?_)
            · have h2 := of_decide_eq_true h2
              have hk' : k < s.length := by omega
              have hw1 : IntKind.i64.wrap ((k : Int) + 1) = (k + 1 : Nat) := by rw [wr (by omega) (by omega)]; rfl
              have hw2 : IntKind.i64.wrap (((k + 1 : Nat) : Int) + 1) = (k + 2 : Nat) := by rw [wr (by omega) (by omega)]; rfl
              rw [drop_cons hk'] at he
              conv => whnf
              refine ⟨s[k], idx hk' rfl, ?_⟩
              conv => whnf
              refine branch_of (fun h3 => ?_) (fun h3 => ?_)
              · rw [Bool.not_eq_true'] at h3
                have h3 := of_decide_eq_false h3
                conv => whnf
                refine ⟨s[k], idx hk' rfl, ?_⟩
                conv => whnf
                refine branch_of (fun h4 => ?_) (fun h4 => ?_)
                · have h4 := of_decide_eq_true h4
                  conv => whnf
                  rw [hw1, hw2]
                  refine ⟨s.length + 1 - (k + 2), by omega, k + 2, rfl, by omega, by omega, ?_, rfl⟩
                  rw [he]
                  by_cases hk2 : k + 1 < s.length
                  · rw [drop_cons hk2, refText_esc (by omega)]
                  · have h1 : s.drop (k + 1) = [] := List.drop_eq_nil_iff.2 (by omega)
                    have h2 : s.drop (k + 2) = [] := List.drop_eq_nil_iff.2 (by omega)
                    rw [h1, h2, refText_end (by omega)]; rfl
                · have h4 := of_decide_eq_false h4
                  conv => whnf
                  rw [hw1]
                  refine ⟨s.length + 1 - (k + 1), by omega, k + 1, rfl, by omega, by omega, ?_, rfl⟩
                  rw [he, refText_step (by omega) (by omega)]
              · rw [Bool.not_eq_false'] at h3
                have h3 := of_decide_eq_true h3
                rw [refText_quote (by omega)] at he
                conv => whnf
                exact ⟨k, by omega, .inl ⟨hk', he⟩, rfl⟩
            · have h2 := of_decide_eq_false h2
              have hd : s.drop k = [] := List.drop_eq_nil_iff.2 (by omega)
              rw [hd] at he
              conv => whnf
              exact ⟨k, hk, .inr ⟨by omega, he⟩, rfl⟩
        rintro st ⟨q, hq0, hq, rfl⟩
        conv => whnf
        refine branch_of (fun h2 => ?_) (fun h2 => ?_)
        · have h2 := of_decide_eq_true h2
          have h3 : refText 1 r = 0 := by rcases hq with ⟨h3, _⟩ | ⟨_, h3⟩; omega; exact h3
          rw [if_pos h3] at e
          conv => whnf
          exact fin0 (by rw [e]; rfl) trivial
        · have h2 := of_decide_eq_false h2
          have h3 : refText 1 r = q + 1 := by rcases hq with ⟨_, h3⟩ | ⟨h3, _⟩; exact h3; omega
          rw [if_neg (by omega), h3] at e
          conv => whnf
          refine fin0 ?_ trivial
          rw [e, wr (by omega) (by omega)]; rfl
      · have hn3 : c.toNat ≠ 34 := by have := of_decide_eq_false h; omega
        have es : refSign s = if twoB (s.take 2) then (5, 2) else if c ∈ signs1 then (5, 1) else (0, 0) := by
          conv => lhs; rw [hcr]
          rw [refSign, if_neg hn, if_neg hn2, if_neg hn3, ← hcr]
        conv => whnf
        refine seq_of hP [0, 2, 3, 4, 5, 6, 9, 25, 29, 32, 58, 62, 74, 78, 86, 91, 107, 109] [200003, 200009, 100001, 100003, 100005, 91] [0, 2, 3, 4, 6] [] [] (fun st => ∃ w : Bs, twoB w = twoB (s.take 2) ∧ st = ⟨[(0, .str s), (2, .int .i64 0), (3, .int .i64 0), (4, .int .u8 c.toNat), (6, .str w)], []⟩) ?_ ?_
        · conv => whnf
          refine branch_of (fun h2 => ?_) (fun h2 => ?_)
          · have h2 := of_decide_eq_true h2
            conv => whnf
            refine ⟨⟨⟩, by dsimp only; omega, ?_⟩
            conv => whnf
            exact ⟨s.take 2, rfl, rfl⟩
          · have h2 := of_decide_eq_false h2
            have hr : r = [] := List.eq_nil_of_length_eq_zero (by omega)
            conv => whnf
            refine ⟨[], ?_, rfl⟩
            rw [hcr, hr]; simp [twoB]
        rintro st ⟨w, htw, rfl⟩
        conv => whnf
        refine branch_of (fun h => ?_) (fun t0 => ?_)
        · have h : w = [33, 61] := of_decide_eq_true h
          have e : refSign s = (5, 2) := by rw [es, ← htw, if_pos (by rw [h]; rfl)]
          conv => whnf
          exact fin0 (by rw [e]; rfl) trivial
        have t0 : w ≠ [33, 61] := of_decide_eq_false t0
        conv => whnf
        refine branch_of (fun h => ?_) (fun t1 => ?_)
        · have h : w = [60, 61] := of_decide_eq_true h
          have e : refSign s = (5, 2) := by rw [es, ← htw, if_pos (by rw [h]; rfl)]
          conv => whnf
          exact fin0 (by rw [e]; rfl) trivial
        have t1 : w ≠ [60, 61] := of_decide_eq_false t1
        conv => whnf
        refine branch_of (fun h => ?_) (fun t2 => ?_)
        · have h : w = [45, 62] := of_decide_eq_true h
          have e : refSign s = (5, 2) := by rw [es, ← htw, if_pos (by rw [h]; rfl)]
          conv => whnf
          exact fin0 (by rw [e]; rfl) trivial
        have t2 : w ≠ [45, 62] := of_decide_eq_false t2
        conv => whnf
        refine branch_of (fun h => ?_) (fun t3 => ?_)
        · have h : w = [61, 62] := of_decide_eq_true h
          have e : refSign s = (5, 2) := by rw [es, ← htw, if_pos (by rw [h]; rfl)]
          conv => whnf
          exact fin0 (by rw [e]; rfl) trivial
        have t3 : w ≠ [61, 62] := of_decide_eq_false t3
        have hw : twoB w = false := by simp [twoB, t0, t1, t2, t3]
        rw [← htw, hw, if_neg (by simp)] at es
        conv => whnf
        refine call0 (single_good c) ?_
        cases hm : decide (c ∈ signs1) with
        | true =>
          rw [if_pos (of_decide_eq_true hm)] at es
          conv => whnf
          exact fin0 (by rw [es]; rfl) trivial
        | false =>
          rw [if_neg (of_decide_eq_false hm)] at es
          conv => whnf
          exact fin0 (by rw [es]; rfl) trivial
end Go.PV
namespace Go.PV
open Go Go.Proofs
set_option maxRecDepth 100000
theorem rlex_good (s : Bs) (hs : s.length ≤ 20000) : Good Tryz.prog 67 [.str s] [] [.sl 4 (toksV (toksR s)), .agg [.int .i64 (posR s).1, .int .i64 (posR s).2], .int .i64 (errR s)] [] := by
  refine good_of hP Tryz.func67 (by kernel_rfl) (lv := [0, 2, 3, 4, 5, 6, 7, 8, 9, 10, 11, 12, 16, 22, 45, 59, 74, 90, 95, 107]) (js := [100002, 100003, 100005]) ⟨rfl, rfl, rfl, rfl, rfl, rfl, _, rfl, ?_⟩
  conv => whnf
  refine branch_of (fun h => absurd (of_decide_eq_true h) (by omega)) (fun _ => ?_)
  conv => whnf
  refine loop_of hP [0, 2, 3, 4, 5, 6, 7, 8, 9, 10, 11, 12, 16, 22, 45, 59, 74, 90, 95, 107] [100002, 100003, 100005] [0, 2, 3, 4, 5, 6, 7, 8] [67, 69, 70, 71] [.slot 6 4] (fun m st => ∃ (i f : Nat) (acc : List Tok), m = s.length - i ∧ i ≤ s.length ∧ s.length ≤ f + i ∧ acc.length ≤ i ∧ toksS s = (acc ++ (toksGo s f (i + blanksN false (s.drop i))).1, (toksGo s f (i + blanksN false (s.drop i))).2) ∧
    st = ⟨[(0, .str s), (2, .nil), (3, .ptr 67 0 0), (4, .int .i64 0), (5, .ptr 69 0 0), (6, .own 70 0), (7, .ptr 71 0 0), (8, .int .i64 i)], [(67, .box 0 [.int .i64 0, .int .i64 0]), (69, .box 0 [.int .i64 0, .int .i64 0]), (70, .arr 0 false 4 (toksV acc)), (71, .box 0 [.int .i64 (posS (s.take i)).1, .int .i64 (posS (s.take i)).2])]⟩) s.length ?_ ?_
  · conv => whnf
    exact ⟨0, s.length, [], rfl, Nat.zero_le _, by omega, Nat.zero_le _, by rw [List.drop_zero, Nat.zero_add]; rfl, rfl⟩
  · rintro m st ⟨i, f, acc, rfl, hi, hf, hacc, he, rfl⟩
    conv => whnf
    refine branch_of (fun h => ?_) (fun h => ?_)
    · have h := of_decide_eq_true h
      have hi' : i < s.length := by omega
      conv => whnf
      refine ⟨s[i], idx hi' rfl, ?_⟩
      conv => whnf
      refine seq_of hP [0, 2, 3, 4, 5, 6, 7, 8, 9, 10, 11, 12, 16, 22, 45, 59, 74, 90, 95, 107] [100002, 100003, 100005] [0, 2, 3, 4, 5, 6, 7, 8, 10] [67, 69, 70, 71] [] (fun st => ∃ (n f : Nat) (acc : List Tok), 1 ≤ n ∧ i + n ≤ s.length ∧ s.length ≤ f + (i + n) ∧ acc.length ≤ i + n ∧ toksS s = (acc ++ (toksGo s f (i + n + blanksN false (s.drop (i + n)))).1, (toksGo s f (i + n + blanksN false (s.drop (i + n)))).2) ∧
        st = ⟨[(0, .str s), (2, .nil), (3, .ptr 67 0 0), (4, .int .i64 0), (5, .ptr 69 0 0), (6, .own 70 0), (7, .ptr 71 0 0), (8, .int .i64 i), (10, .int .i64 n)], [(67, .box 0 [.int .i64 0, .int .i64 0]), (69, .box 0 [.int .i64 0, .int .i64 0]), (70, .arr 0 false 4 (toksV acc)), (71, .box 0 [.int .i64 (posS (s.take i)).1, .int .i64 (posS (s.take i)).2])]⟩) ?_ ?_
      · conv => whnf
        have hb : s[i].toNat ≠ 37 → blankB s[i] = true → blanksN false (s.drop i) = 1 + blanksN false (s.drop (i + 1)) := fun h1 h2 => by
          rw [drop_cons hi', blanksN, if_neg h1, if_pos h2]
        have hone : blankB s[i] = true → i + 1 ≤ s.length ∧ toksS s = (acc ++ (toksGo s f (i + 1 + blanksN false (s.drop (i + 1)))).1, (toksGo s f (i + 1 + blanksN false (s.drop (i + 1)))).2) := fun h2 => by
          have h1 : s[i].toNat ≠ 37 := by simp [blankB] at h2; omega
          rw [hb h1 h2, ← Nat.add_assoc] at he
          exact ⟨by omega, he⟩
        refine branch_of (fun h1 => ?_) (fun b0 => ?_)
        · obtain ⟨q1, q2⟩ := hone (by have := of_decide_eq_true h1; simp [blankB]; omega)
          conv => whnf
          exact ⟨1, f, acc, Nat.le_refl _, q1, by omega, by omega, q2, rfl⟩
        have b0 := of_decide_eq_false b0
        conv => whnf
        refine branch_of (fun h1 => ?_) (fun b1 => ?_)
        · obtain ⟨q1, q2⟩ := hone (by have := of_decide_eq_true h1; simp [blankB]; omega)
          conv => whnf
          exact ⟨1, f, acc, Nat.le_refl _, q1, by omega, by omega, q2, rfl⟩
        have b1 := of_decide_eq_false b1
        conv => whnf
        refine branch_of (fun h1 => ?_) (fun b2 => ?_)
        · obtain ⟨q1, q2⟩ := hone (by have := of_decide_eq_true h1; simp [blankB]; omega)
          conv => whnf
          exact ⟨1, f, acc, Nat.le_refl _, q1, by omega, by omega, q2, rfl⟩
        have b2 := of_decide_eq_false b2
        conv => whnf
        refine branch_of (fun h1 => ?_) (fun b3 => ?_)
        · obtain ⟨q1, q2⟩ := hone (by have := of_decide_eq_true h1; simp [blankB]; omega)
          conv => whnf
          exact ⟨1, f, acc, Nat.le_refl _, q1, by omega, by omega, q2, rfl⟩
        have b3 := of_decide_eq_false b3
        conv => whnf
        refine branch_of (fun h1 => ?_) (fun h1 => ?_)
        · have h1 := of_decide_eq_true h1
          have hl := lineN_le (s.drop i)
          rw [List.length_drop] at hl
          have hl1 : 1 ≤ lineN (s.drop i) := by
            rw [drop_cons hi']; unfold lineN; rw [List.takeWhile_cons, if_pos (by simp; omega)]; simp
          have done : ∀ k, lineN (s.drop i) = k → 1 ≤ k ∧ i + k ≤ s.length ∧ s.length ≤ f + (i + k) ∧ acc.length ≤ i + k ∧ toksS s = (acc ++ (toksGo s f (i + k + blanksN false (s.drop (i + k)))).1, (toksGo s f (i + k + blanksN false (s.drop (i + k)))).2) := fun k hk => by
            subst hk
            have e2 := blanksN_line (s.drop i)
            have e3 : blanksN true (s.drop i) = 1 + blanksN true (s.drop (i + 1)) := by rw [drop_cons hi', blanksN, if_neg (by omega)]
            have e4 : blanksN false (s.drop i) = 1 + blanksN true (s.drop (i + 1)) := by rw [drop_cons hi', blanksN, if_pos (by omega)]
            rw [List.drop_drop] at e2
            rw [e4, ← e3, e2, ← Nat.add_assoc] at he
            exact ⟨hl1, by omega, by omega, by omega, he⟩
          conv => whnf
          refine loop_of hP [0, 2, 3, 4, 5, 6, 7, 8, 9, 10, 11, 12, 16, 22, 45, 59, 74, 90, 95, 107] [100002, 100003, 100005] [0, 2, 3, 4, 5, 6, 7, 8, 10] [67, 69, 70, 71] [] (fun m st => ∃ k : Nat, m = s.length - k ∧ i + k ≤ s.length ∧ lineN (s.drop i) = k + lineN (s.drop (i + k)) ∧ st = ⟨[(0, .str s), (2, .nil), (3, .ptr 67 0 0), (4, .int .i64 0), (5, .ptr 69 0 0), (6, .own 70 0), (7, .ptr 71 0 0), (8, .int .i64 i), (10, .int .i64 k)], [(67, .box 0 [.int .i64 0, .int .i64 0]), (69, .box 0 [.int .i64 0, .int .i64 0]), (70, .arr 0 false 4 (toksV acc)), (71, .box 0 [.int .i64 (posS (s.take i)).1, .int .i64 (posS (s.take i)).2])]⟩) s.length ?_ ?_
          · conv => whnf
            exact ⟨0, rfl, by omega, by simp, rfl⟩
          · rintro m st ⟨k, rfl, hk, hln, rfl⟩
            have hw : IntKind.i64.wrap ((i : Int) + (k : Int)) = (i + k : Nat) := by rw [wr (by omega) (by omega)]; omega
            have hw4 : IntKind.i64.wrap ((k : Int) + 1) = (k + 1 : Nat) := by rw [wr (by omega) (by omega)]; rfl
            conv => whnf
            rw [hw]
            refine branch_of (fun h2 => ?_) (fun h2 => ?_)
            · have h2 := of_decide_eq_true h2
              have hk' : i + k < s.length := by omega
              conv => whnf
              refine ⟨s[i + k], idx hk' hw, ?_⟩
              conv => whnf
              refine branch_of (fun h3 => ?_) (fun h3 => ?_)
              · rw [Bool.not_eq_true'] at h3
                have h3 := of_decide_eq_false h3
                have e : lineN (s.drop (i + k)) = 1 + lineN (s.drop (i + k + 1)) := by
                  rw [drop_cons hk']; unfold lineN; rw [List.takeWhile_cons, if_pos (by simp; omega), List.length_cons]; omega
                conv => whnf
                refine ⟨s.length - (k + 1), by omega, k + 1, rfl, by omega, by rw [hln, e, Nat.add_assoc i k 1]; omega, ?_⟩
                rw [hw4]
              · rw [Bool.not_eq_false'] at h3
                have h3 := of_decide_eq_true h3
                have e : lineN (s.drop (i + k)) = 0 := by
                  rw [drop_cons hk']; unfold lineN; rw [List.takeWhile_cons, if_neg (by simp; omega)]; rfl
                obtain ⟨d1, d2, d3, d4, d5⟩ := done k (by omega)
                conv => whnf
                exact ⟨k, f, acc, d1, d2, d3, d4, d5, rfl⟩
            · have h2 := of_decide_eq_false h2
              have hd : s.drop (i + k) = [] := List.drop_eq_nil_iff.2 (by omega)
              have e : lineN (s.drop (i + k)) = 0 := by rw [hd]; rfl
              obtain ⟨d1, d2, d3, d4, d5⟩ := done k (by omega)
              conv => whnf
              exact ⟨k, f, acc, d1, d2, d3, d4, d5, rfl⟩
        · have h1 := of_decide_eq_false h1
          have hz : blanksN false (s.drop i) = 0 := by
            rw [drop_cons hi', blanksN, if_neg (by omega), if_neg (by simp [blankB]; omega)]
          rw [hz, Nat.add_zero] at he
          obtain ⟨f, rfl⟩ : ∃ f', f = f' + 1 := ⟨f - 1, by omega⟩
          rw [toksGo, if_pos hi'] at he
          dsimp only at he
          have hne : s.drop i ≠ [] := fun e => by have := congrArg List.length e; simp at this; omega
          obtain ⟨sr1, sr2⟩ := sign_ref (s.drop i) hne
          have hnl := nextS_le (s.drop i)
          rw [List.length_drop] at hnl
          conv => whnf
          refine ⟨⟨⟩, by dsimp only; omega, ?_⟩
          conv => whnf
          refine call0 (rsign_good (s.drop i) (by simp; omega) hne) ?_
          cases hx : (nextS (s.drop i)).2.2 with
          | true =>
            have sr2 := sr2 hx
            have hp := nextS_pos hx
            rw [hx, if_pos rfl] at he
            rw [hx, sr2] at sr1
            rw [sr2]
            dsimp only at sr1 ⊢
            generalize hN : (nextS (s.drop i)).2.1 = N at *
            generalize hK : (nextS (s.drop i)).1 = K at *
            have sr1 := sr1.symm
            rw [Bool.and_eq_true, decide_eq_true_eq] at sr1
            have hw : IntKind.i64.wrap ((i : Int) + (N : Int)) = (i + N : Nat) := by rw [wr (by omega) (by omega)]; omega
            have htx : (s.take (i + N)).drop i = (s.drop i).take N := by rw [List.drop_take, Nat.add_sub_cancel_left]
            conv => whnf
            refine branch_of (fun h2 => absurd (of_decide_eq_true h2) sr1.1) (fun h2 => ?_)
            conv => whnf
            refine ⟨⟨⟩, by dsimp only; rw [hw]; omega, ?_⟩
            conv => whnf
            refine call0 (right_good K ((s.drop i).take N) (by simp; omega)) ?_ (by rw [hw, ← htx]; rfl)
            rw [sr1.2]
            conv => whnf
            refine ⟨⟨⟩, by dsimp only; rw [hw]; omega, ?_⟩
            conv => whnf
            refine ⟨⟨⟩, by dsimp only; simp only [List.length_map, List.length_cons, List.length_nil]; omega, ?_⟩
            conv => whnf
            refine ⟨by kernel_rfl, ?_⟩
            conv => whnf
            refine ⟨N, f, acc ++ [⟨K, (s.drop i).take N, posS (s.take i)⟩], hp, by omega, by omega, by simp; omega, by rw [he]; simp, ?_⟩
            rw [hw, show toksV (acc ++ [⟨K, (s.drop i).take N, posS (s.take i)⟩]) = toksV acc ++ [Tok.c ⟨K, (s.drop i).take N, posS (s.take i)⟩] from List.map_append]
            show _ = (⟨_, [_, _, (70, .arr 0 false 4 (toksV acc ++ [[.int .i64 K, .str ((s.drop i).take N), .int .i64 (posS (s.take i)).1, .int .i64 (posS (s.take i)).2]])), _]⟩ : St)
            rw [← htx]; rfl
          | false =>
            rw [hx, if_neg (by simp)] at he
            rw [hx] at sr1
            generalize hR : refSign (s.drop i) = R at *
            have hRl := refSign_le (s.drop i)
            rw [hR, List.length_drop] at hRl
            obtain ⟨K, N⟩ := R
            dsimp only at sr1 hRl ⊢
            have hw : IntKind.i64.wrap ((i : Int) + (N : Int)) = (i + N : Nat) := by rw [wr (by omega) (by omega)]; omega
            have htx : (s.take (i + N)).drop i = (s.drop i).take N := by rw [List.drop_take, Nat.add_sub_cancel_left]
            conv => whnf
            refine branch_of (fun h2 => ?_) (fun h2 => ?_)
            · conv => whnf
              refine ⟨by kernel_rfl, ?_⟩
              conv => whnf
              refine fin0 ?_ trivial
              simp [toksR, errR, posR, he]
            · have h2 := of_decide_eq_false h2
              have hrr : refRight K ((s.drop i).take N) = false := by simpa [h2] using sr1.symm
              conv => whnf
              refine ⟨⟨⟩, by dsimp only; rw [hw]; omega, ?_⟩
              conv => whnf
              refine call0 (right_good K ((s.drop i).take N) (by simp; omega)) ?_ (by rw [hw, ← htx]; rfl)
              rw [hrr]
              conv => whnf
              refine ⟨by kernel_rfl, ?_⟩
              conv => whnf
              refine fin0 ?_ trivial
              simp [toksR, errR, posR, he]
      · rintro st ⟨n, f, acc, hn1, hn, hf, hacc, he, rfl⟩
        conv => whnf
        refine seq_of hP [0, 2, 3, 4, 5, 6, 7, 8, 9, 10, 11, 12, 16, 22, 45, 59, 74, 90, 95, 107] [100002, 100003, 100005] [0, 2, 3, 4, 5, 6, 7, 8, 10] [67, 69, 70, 71] [] (fun st => st = ⟨[(0, .str s), (2, .nil), (3, .ptr 67 0 0), (4, .int .i64 0), (5, .ptr 69 0 0), (6, .own 70 0), (7, .ptr 71 0 0), (8, .int .i64 i), (10, .int .i64 n)], [(67, .box 0 [.int .i64 0, .int .i64 0]), (69, .box 0 [.int .i64 0, .int .i64 0]), (70, .arr 0 false 4 (toksV acc)), (71, .box 0 [.int .i64 (posS (s.take (i + n))).1, .int .i64 (posS (s.take (i + n))).2])]⟩) ?_ ?_
        · conv => whnf
          refine loop_of hP [0, 2, 3, 4, 5, 6, 7, 8, 9, 10, 11, 12, 16, 22, 45, 59, 74, 90, 95, 107] [100002, 100003, 100005] [0, 2, 3, 4, 5, 6, 7, 8, 10, 12] [67, 69, 70, 71] [] (fun m st => ∃ k : Nat, m = n - k ∧ k ≤ n ∧ st = ⟨[(0, .str s), (2, .nil), (3, .ptr 67 0 0), (4, .int .i64 0), (5, .ptr 69 0 0), (6, .own 70 0), (7, .ptr 71 0 0), (8, .int .i64 i), (10, .int .i64 n), (12, .int .i64 k)], [(67, .box 0 [.int .i64 0, .int .i64 0]), (69, .box 0 [.int .i64 0, .int .i64 0]), (70, .arr 0 false 4 (toksV acc)), (71, .box 0 [.int .i64 (posS (s.take (i + k))).1, .int .i64 (posS (s.take (i + k))).2])]⟩) n ?_ ?_
          · conv => whnf
            exact ⟨0, rfl, Nat.zero_le _, rfl⟩
          · rintro m st ⟨k, rfl, hk, rfl⟩
            have hp := posS_le s (i + k) (by omega)
            conv => whnf
            refine branch_of (fun h => ?_) (fun h => ?_)
            · have h := of_decide_eq_true h
              have hk' : i + k < s.length := by omega
              have hw0 : IntKind.i64.wrap ((i : Int) + (k : Int)) = (i + k : Nat) := by rw [wr (by omega) (by omega)]; omega
              have hpos := posS_snoc s hk'
              have hw1 : IntKind.i64.wrap ((posS (s.take (i + k))).2 + 1) = (posS (s.take (i + k))).2 + 1 := wr (by omega) (by omega)
              have hw2 : IntKind.i64.wrap ((posS (s.take (i + k))).1 + 1) = (posS (s.take (i + k))).1 + 1 := wr (by omega) (by omega)
              have hw4 : IntKind.i64.wrap ((k : Int) + 1) = (k + 1 : Nat) := by rw [wr (by omega) (by omega)]; rfl
              conv => whnf
              refine ⟨s[i + k], idx hk' hw0, ?_⟩
              conv => whnf
              refine branch_of (fun h => ?_) (fun h => ?_)
              · have h := of_decide_eq_true h
                rw [if_pos (by omega)] at hpos
                conv => whnf
                refine ⟨n - (k + 1), by omega, k + 1, rfl, by omega, ?_⟩
                rw [hw2, hw4, ← Nat.add_assoc, hpos]
              · have h := of_decide_eq_false h
                rw [if_neg (by omega)] at hpos
                conv => whnf
                refine ⟨n - (k + 1), by omega, k + 1, rfl, by omega, ?_⟩
                rw [hw1, hw4, ← Nat.add_assoc, hpos]
            · have h := of_decide_eq_false h
              have : k = n := by omega
              subst this
              conv => whnf
        rintro st rfl
        conv => whnf
        have hw0 : IntKind.i64.wrap ((i : Int) + (n : Int)) = (i + n : Nat) := by rw [wr (by omega) (by omega)]; omega
        refine ⟨s.length - (i + n), by omega, i + n, f, acc, rfl, hn, hf, hacc, he, ?_⟩
        rw [hw0]
    · have h := of_decide_eq_false h
      have hd : s.drop i = [] := List.drop_eq_nil_iff.2 (by omega)
      have hg : toksGo s f (i + blanksN false (s.drop i)) = ([], none) := by
        cases f with
        | zero => rfl
        | succ f => rw [toksGo, if_neg (by omega)]
      rw [hg, List.append_nil] at he
      conv => whnf
      refine ⟨by kernel_rfl, ?_⟩
      conv => whnf
      refine fin0 ?_ trivial
      simp [toksR, errR, posR, he]
end Go.PV
namespace Go.PV
open Go Go.Proofs
set_option maxRecDepth 100000
theorem plainB_in (c : UInt8) : plainB c = decide ((32 : Int) ≤ (c.toNat : Int) ∧ (c.toNat : Int) ≤ 126) := by
  unfold plainB inB
  rw [Bool.eq_iff_iff]; simp; omega
/-- the page's right value -/
theorem refValue_good (v : Val) (hs : v.s.length ≤ 1000000) : Good Tryz.prog 136 [.agg v.c] [] [.bool (checkS v)] [] := by
  obtain ⟨k, n, s⟩ := v
  dsimp only at hs
  refine good_of hP Tryz.func136 (by kernel_rfl) (lv := [0, 1, 2, 3, 5, 6, 17, 27, 37, 42, 51]) (js := []) ⟨rfl, rfl, rfl, rfl, rfl, rfl, _, rfl, ?_⟩
  unfold checkS
  dsimp only
  conv => whnf
  refine branch_of (fun h => ?_) (fun h => ?_)
  · have h : k = 1 := of_decide_eq_true h
    rw [if_pos h]
    conv => whnf
    refine call0 (in_good n (-4611686018427387904) 4611686018427387904) ?_
    unfold inR
    refine branch_of (fun h2 => ?_) (fun h2 => ?_)
    · rw [h2]
      conv => whnf
      have e : decide ((s.length : Int) = 0) = decide (s = []) := by
        rw [decide_eq_decide]; constructor
        · intro e; exact List.eq_nil_of_length_eq_zero (by omega)
        · intro e; subst e; rfl
      exact fin0 (by rw [Bool.true_and, ← e]) trivial
    · rw [h2]
      conv => whnf
      exact fin0 rfl trivial
  have h : ¬ k = 1 := of_decide_eq_false h
  rw [if_neg h]
  conv => whnf
  refine branch_of (fun h3 => ?_) (fun h3 => ?_)
  · have h3 : k = 2 := of_decide_eq_true h3
    rw [if_pos h3]
    conv => whnf
    refine branch_of (fun h4 => ?_) (fun h4 => ?_)
    · rw [h4]
      conv => whnf
      refine call0 (word_good s false hs) ?_
      rw [symbol_word]
      conv => whnf
      exact fin0 rfl trivial
    · rw [h4]
      conv => whnf
      exact fin0 rfl trivial
  have h3 : ¬ k = 2 := of_decide_eq_false h3
  rw [if_neg h3]
  conv => whnf
  refine branch_of (fun h5 => ?_) (fun h5 => ?_)
  · have h5 : k = 3 := of_decide_eq_true h5
    rw [if_pos h5]
    conv => whnf
    refine branch_of (fun h6 => ?_) (fun h6 => ?_)
    · rw [Bool.not_eq_true'] at h6
      rw [h6]
      conv => whnf
      exact fin0 rfl trivial
    rw [Bool.not_eq_false'] at h6
    rw [h6, Bool.true_and]
    conv => whnf
    refine branch_of (fun h7 => ?_) (fun h7 => ?_)
    · have h7 := of_decide_eq_true h7
      dsimp only at h7
      conv => whnf
      exact fin0 (by unfold plainS; rw [decide_eq_false (by omega), Bool.and_false]) trivial
    have h7 := of_decide_eq_false h7
    dsimp only at h7
    have e : plainS s = s.all plainB := by unfold plainS; rw [decide_eq_true (by omega), Bool.and_true]
    rw [e]
    conv => whnf
    refine loop_of hP [0, 1, 2, 3, 5, 6, 17, 27, 37, 42, 51] [] [1, 2, 3] [65] [] (fun m st => ∃ i : Nat, m = s.length - i ∧ i ≤ s.length ∧ s.all plainB = (s.drop i).all plainB ∧ st = ⟨[(1, .ptr 65 0 0), (2, .bool false), (3, .int .i64 i)], [(65, .box 0 (Val.c ⟨k, n, s⟩))]⟩) s.length ?_ ?_
    · conv => whnf
      exact ⟨0, rfl, Nat.zero_le _, rfl, rfl⟩
    · rintro m st ⟨i, rfl, hi, he, rfl⟩
      conv => whnf
      refine branch_of (fun h8 => ?_) (fun h8 => ?_)
      · have h8 := of_decide_eq_true h8
        have hi' : i < s.length := by dsimp only at h8; omega
        conv => whnf
        refine ⟨s[i], idx hi' rfl, ?_⟩
        conv => whnf
        have hw : IntKind.i64.wrap (s[i].toNat : Int) = s[i].toNat := by have := s[i].toNat_lt; rw [wr (by omega) (by omega)]
        rw [hw]
        refine call0 (in_good s[i].toNat 32 126) ?_
        rw [← plainB_in]
        rw [all_drop hi'] at he
        cases hp : plainB s[i] with
        | false =>
          rw [hp, Bool.false_and] at he
          rw [he]
          conv => whnf
          exact fin0 rfl trivial
        | true =>
          rw [hp, Bool.true_and] at he
          conv => whnf
          refine ⟨s.length - (i + 1), by omega, i + 1, rfl, by omega, he, ?_⟩
          rw [wr (by omega) (by omega)]; rfl
      · have h8 := of_decide_eq_false h8
        have h9 : s.drop i = [] := List.drop_eq_nil_iff.2 (by dsimp only at h8; omega)
        rw [h9] at he
        rw [he]
        conv => whnf
        exact fin0 rfl trivial
  · have h5 : ¬ k = 3 := of_decide_eq_false h5
    rw [if_neg h5]
    conv => whnf
    exact fin0 rfl trivial
/-- the page's right expression -/
theorem refExpr_good (l : List Stp) (hb : opsB l) : Good Tryz.prog 118 [.sl 5 (stpV l)] [] [.bool (exprOk l)] [] := by
  obtain ⟨hl, ho⟩ := hb
  refine good_of hP Tryz.func118 (by kernel_rfl) (lv := [0, 2, 3, 4, 5, 9, 13, 21, 22, 33, 36, 47, 50, 67]) (js := [50]) ⟨rfl, rfl, rfl, rfl, rfl, rfl, _, rfl, ?_⟩
  conv => whnf
  refine call0 (in_good (stpV l).length 1 15) ?_
  rw [List.length_map]
  cases hle : decide ((1 : Int) ≤ (l.length : Int) ∧ (l.length : Int) ≤ 15) with
  | false =>
    have h := of_decide_eq_false hle
    have e : exprOk l = false := by unfold exprOk; rw [decide_eq_false (by omega), Bool.false_and]
    rw [e]
    conv => whnf
    exact fin0 rfl trivial
  | true =>
  have h := of_decide_eq_true hle
  have e : exprOk l = decide (depGo 0 l = some 1) := by
    have : decide (1 ≤ l.length ∧ l.length ≤ 15) = true := by simp; omega
    rw [exprOk, this, Bool.true_and]
  rw [e]
  conv => whnf
  refine loop_of hP [0, 2, 3, 4, 5, 9, 13, 21, 22, 33, 36, 47, 50, 67] [50] [0, 2, 3, 4] [] [] (fun n st => ∃ k d : Nat, n = l.length - k ∧ k ≤ l.length ∧ d ≤ k ∧ depGo 0 l = depGo d (l.drop k) ∧ st = ⟨[(0, .sl 5 (stpV l)), (2, .bool false), (3, .int .i64 d), (4, .int .i64 k)], []⟩) l.length ?_ ?_
  · conv => whnf
    exact ⟨0, 0, rfl, Nat.zero_le _, Nat.le_refl _, rfl, rfl⟩
  · rintro n st ⟨k, d, rfl, hk, hd, he, rfl⟩
    conv => whnf
    refine branch_of (fun h3 => ?_) (fun h3 => ?_)
    · have h3 := of_decide_eq_true h3
      rw [List.length_map] at h3
      have hk' : k < l.length := by omega
      rw [List.drop_eq_getElem_cons hk', depGo] at he
      conv => whnf
      refine ⟨Stp.c l[k], idxM hk' rfl, ?_⟩
      conv => whnf
      obtain ⟨b1, b2⟩ := ho _ (List.getElem_mem hk')
      generalize l[k] = o at *
      obtain ⟨ok, ov, ox⟩ := o
      dsimp only at b1 b2 he
      unfold stpOk at he
      dsimp only at he
      refine branch_of (fun g1 => ?_) (fun g1 => ?_)
      · have g1 : ok = 1 := of_decide_eq_true g1
        rw [if_pos g1] at he
        conv => whnf
        refine call0 (word_good ov true b1) ?_
        have ev : varS ov = refWordS true ov := rfl
        rw [← ev]
        cases hv : varS ov with
        | false =>
          rw [hv, Bool.false_and, if_neg (by simp)] at he
          rw [he]
          conv => whnf
          exact fin0 rfl trivial
        | true =>
          rw [hv, Bool.true_and] at he
          conv => whnf
          refine ⟨_, (eqVal ox zeroV).2, ?_⟩
          conv => whnf
          by_cases hz : ox = zeroV
          · rw [decide_eq_true hz] at he ⊢
            rw [if_pos rfl, if_pos (by omega)] at he
            conv => whnf
            refine ⟨l.length - (k + 1), by omega, k + 1, d + 1, rfl, by omega, by omega, he, ?_⟩
            rw [wr (by omega) (by omega), wr (by omega) (by omega)]; rfl
          · rw [decide_eq_false hz] at he ⊢
            rw [if_neg (by simp)] at he
            rw [he]
            conv => whnf
            exact fin0 rfl trivial
      have g1 : ¬ ok = 1 := of_decide_eq_false g1
      rw [if_neg g1] at he
      conv => whnf
      refine branch_of (fun g2 => ?_) (fun g2 => ?_)
      · have g2 : ok = 2 := of_decide_eq_true g2
        rw [if_pos g2] at he
        conv => whnf
        refine branch_of (fun g3 => ?_) (fun g3 => ?_)
        · have g3 := of_decide_eq_true g3
          have : ov ≠ [] := by rintro rfl; exact absurd g3 (show ¬ (0 : Int) < 0 by omega)
          rw [decide_eq_false this, Bool.false_and, if_neg (by simp)] at he
          rw [he]
          conv => whnf
          exact fin0 rfl trivial
        have g3 := of_decide_eq_false g3
        have hov : ov = [] := List.eq_nil_of_length_eq_zero (by dsimp only at g3; omega)
        rw [decide_eq_true hov, Bool.true_and] at he
        conv => whnf
        refine call0 (refValue_good ox b2) ?_
        cases hc : checkS ox with
        | false =>
          rw [hc, if_neg (by simp)] at he
          rw [he]
          conv => whnf
          exact fin0 rfl trivial
        | true =>
          rw [hc, if_pos rfl, if_pos (by omega)] at he
          conv => whnf
          refine ⟨l.length - (k + 1), by omega, k + 1, d + 1, rfl, by omega, by omega, he, ?_⟩
          rw [wr (by omega) (by omega), wr (by omega) (by omega)]; rfl
      have g2 : ¬ ok = 2 := of_decide_eq_false g2
      rw [if_neg g2] at he
      conv => whnf
      refine seq_of hP [0, 2, 3, 4, 5, 9, 13, 21, 22, 33, 36, 47, 50, 67] [50] [0, 2, 3, 4, 5, 50] [69] [] (fun st => st = ⟨[(0, .sl 5 (stpV l)), (2, .bool false), (3, .int .i64 d), (4, .int .i64 k), (5, .ptr 69 0 0), (50, .bool (decide (ok = 3 ∨ ok = 4 ∨ ok = 5)))], [(69, .box 0 (Stp.c ⟨ok, ov, ox⟩))]⟩) ?_ ?_
      · conv => whnf
        refine branch_of (fun g4 => ?_) (fun g4 => ?_)
        · have h4 : ok = 3 := of_decide_eq_true g4
          conv => whnf
          have e : decide (ok = 3 ∨ ok = 4 ∨ ok = 5) = true := by rw [decide_eq_true_iff]; omega
          rw [e, g4]
        have h4 : ¬ ok = 3 := of_decide_eq_false g4
        conv => whnf
        refine branch_of (fun g5 => ?_) (fun g5 => ?_)
        · have h5 : ok = 4 := of_decide_eq_true g5
          conv => whnf
          have e : decide (ok = 3 ∨ ok = 4 ∨ ok = 5) = true := by rw [decide_eq_true_iff]; omega
          rw [e, g5]
        have h5 : ¬ ok = 4 := of_decide_eq_false g5
        conv => whnf
        have e : decide (ok = 3 ∨ ok = 4 ∨ ok = 5) = decide (ok = 5) := by rw [decide_eq_decide]; omega
        rw [e]
      rintro st rfl
      by_cases h6 : ok = 3 ∨ ok = 4 ∨ ok = 5
      · rw [if_pos h6] at he
        rw [decide_eq_true h6]
        conv => whnf
        refine branch_of (fun g3 => ?_) (fun g3 => ?_)
        · have g3 := of_decide_eq_true g3
          have : ov ≠ [] := by rintro rfl; exact absurd g3 (show ¬ (0 : Int) < 0 by omega)
          rw [decide_eq_false this, Bool.false_and, if_neg (by simp)] at he
          rw [he]
          conv => whnf
          exact fin0 rfl trivial
        have g3 := of_decide_eq_false g3
        have hov : ov = [] := List.eq_nil_of_length_eq_zero (by dsimp only at g3; omega)
        rw [decide_eq_true hov, Bool.true_and] at he
        conv => whnf
        refine ⟨_, (eqVal ox zeroV).2, ?_⟩
        conv => whnf
        by_cases hz : ox = zeroV
        · rw [decide_eq_true hz] at he ⊢
          rw [if_pos rfl, if_neg (by omega)] at he
          conv => whnf
          refine branch_of (fun g6 => ?_) (fun g6 => ?_)
          · have g6 := of_decide_eq_true g6
            rw [if_pos (by omega)] at he
            rw [he]
            conv => whnf
            exact fin0 rfl trivial
          · have g6 := of_decide_eq_false g6
            rw [if_neg (by omega)] at he
            conv => whnf
            refine ⟨l.length - (k + 1), by omega, k + 1, d - 1, rfl, by omega, by omega, he, ?_⟩
            rw [wr (by omega) (by omega), wr (by omega) (by omega)]
            have e1 : (d : Int) - 1 = (d - 1 : Nat) := by omega
            rw [e1]; rfl
        · rw [decide_eq_false hz] at he ⊢
          rw [if_neg (by simp)] at he
          rw [he]
          conv => whnf
          exact fin0 rfl trivial
      · rw [if_neg h6, if_neg (by simp)] at he
        rw [decide_eq_false h6, he]
        conv => whnf
        exact fin0 rfl trivial
    · have h3 := of_decide_eq_false h3
      rw [List.length_map] at h3
      have hd2 : l.drop k = [] := List.drop_eq_nil_iff.2 (by omega)
      rw [hd2, depGo] at he
      rw [he]
      conv => whnf
      exact fin0 (by simp; omega) trivial
end Go.PV
namespace Go.PV
open Go Go.Proofs
set_option maxRecDepth 100000
theorem in9_good (a b c : Int) : Good Tryz.prog 77 [.int .i64 a, .int .i64 b, .int .i64 c] [] [.bool (decide (b ≤ a ∧ a ≤ c))] [] := by
  refine good_of hP Tryz.func77 (by kernel_rfl) (lv := [0, 1, 2, 6]) (js := []) ⟨rfl, rfl, rfl, rfl, rfl, rfl, _, rfl, ?_⟩
  conv => whnf
  refine branch_of (fun h => ?_) (fun h => ?_)
  · have h := of_decide_eq_true h
    conv => whnf
    exact fin0 (by rw [show decide (b ≤ a ∧ a ≤ c) = decide (a ≤ c) from by rw [decide_eq_decide]; omega]) trivial
  · have h := of_decide_eq_false h
    conv => whnf
    exact fin0 (by rw [decide_eq_false (by omega)]) trivial
theorem words_good : Good Tryz.prog 147 [] [] [.sl 1 (strV wordsL)] [] := by
  refine good_of hP Tryz.func147 (by kernel_rfl) (lv := [0]) (js := []) ⟨rfl, rfl, rfl, rfl, rfl, rfl, _, rfl, ?_⟩
  conv => whnf
  exact fin0 rfl trivial
theorem refName_good (s : Bs) (hs : s.length ≤ 1000000) : Good Tryz.prog 85 [.str s] [] [.bool (nameS s)] [] := by
  refine good_of hP Tryz.func85 (by kernel_rfl) (lv := [0, 2, 3, 4, 7, 12, 20]) (js := []) ⟨rfl, rfl, rfl, rfl, rfl, rfl, _, rfl, ?_⟩
  unfold nameS
  conv => whnf
  refine call0 (word_good s false hs) ?_
  cases hw : refWordS false s with
  | false =>
    conv => whnf
    exact fin0 rfl trivial
  | true =>
  rw [Bool.true_and]
  conv => whnf
  refine call0 (words_good) ?_
  conv => whnf
  have hL : wordsL.length = 11 := rfl
  generalize wordsL = L at *
  refine loop_of hP [0, 2, 3, 4, 7, 12, 20] [] [0, 2, 3, 4] [] [] (fun n st => ∃ k : Nat, n = 11 - k ∧ k ≤ 11 ∧ (∀ j (h : j < L.length), j < k → L[j] ≠ s) ∧ st = ⟨[(0, .str s), (2, .bool false), (3, .sl 1 (strV L)), (4, .int .i64 k)], []⟩) 11 ?_ ?_
  · conv => whnf
    exact ⟨0, rfl, by omega, fun j _ h => by omega, rfl⟩
  · rintro n st ⟨k, rfl, hk, hn, rfl⟩
    conv => whnf
    refine branch_of (fun h => ?_) (fun h => ?_)
    · have h := of_decide_eq_true h
      rw [List.length_map] at h
      have hk' : k < L.length := by omega
      conv => whnf
      refine ⟨[.str L[k]], idxM hk' rfl, ?_⟩
      conv => whnf
      refine branch_of (fun h2 => ?_) (fun h2 => ?_)
      · have h2 := of_decide_eq_true h2
        have : decide (s ∈ L) = true := by rw [decide_eq_true_iff, ← h2]; exact List.getElem_mem hk'
        rw [this]
        conv => whnf
        exact fin0 rfl trivial
      · have h2 := of_decide_eq_false h2
        conv => whnf
        refine ⟨11 - (k + 1), by omega, k + 1, rfl, by omega, fun j hj hjk => ?_, ?_⟩
        · by_cases e : j = k
          · subst e; exact h2
          · exact hn j hj (by omega)
        · rw [wr (by omega) (by omega)]; rfl
    · have h := of_decide_eq_false h
      rw [List.length_map] at h
      have : decide (s ∈ L) = false := by
        rw [decide_eq_false_iff_not]; intro hm
        obtain ⟨j, hj, e⟩ := List.getElem_of_mem hm
        exact hn j hj (by omega) e
      rw [this]
      conv => whnf
      exact fin0 rfl trivial
theorem refTerm_good (t : Trm) (h1 : t.v.length ≤ 1000000) (h2 : t.x.s.length ≤ 1000000) : Good Tryz.prog 86 [.agg t.c] [] [.bool (termOk t)] [] := by
  obtain ⟨v, x⟩ := t
  dsimp only at h1 h2
  refine good_of hP Tryz.func86 (by kernel_rfl) (lv := [0, 1, 2, 6]) (js := []) ⟨rfl, rfl, rfl, rfl, rfl, rfl, _, rfl, ?_⟩
  unfold termOk
  dsimp only
  conv => whnf
  refine branch_of (fun h => ?_) (fun h => ?_)
  · have h := of_decide_eq_true h
    have hv : v ≠ [] := by rintro rfl; exact absurd h (show ¬ (0 : Int) < 0 by omega)
    rw [if_neg hv]
    conv => whnf
    refine call0 (word_good v true h1) ?_
    have ev : varS v = refWordS true v := rfl
    rw [← ev]
    cases varS v with
    | false =>
      conv => whnf
      exact fin0 rfl trivial
    | true =>
      conv => whnf
      refine ⟨_, (eqVal x zeroV).1, ?_⟩
      conv => whnf
      exact fin0 rfl trivial
  · have h := of_decide_eq_false h
    have hv : v = [] := List.eq_nil_of_length_eq_zero (by dsimp only at h; omega)
    rw [if_pos hv]
    conv => whnf
    refine call0 (refValue_good x h2) ?_
    conv => whnf
    exact fin0 rfl trivial
/-- what is played of atoms -/
def atmL (a : Atm) : Prop := a.n.length ≤ 1000000 ∧ ∀ t ∈ a.a, t.v.length ≤ 1000000 ∧ t.x.s.length ≤ 1000000
theorem refAtom_good (a : Atm) (hb : atmL a) : Good Tryz.prog 34 [.agg a.c] [] [.bool (atomOk a)] [] := by
  obtain ⟨n, l⟩ := a
  obtain ⟨h1, h2⟩ := hb
  dsimp only at h1 h2
  refine good_of hP Tryz.func34 (by kernel_rfl) (lv := [0, 1, 2, 3, 13, 18, 27]) (js := []) ⟨rfl, rfl, rfl, rfl, rfl, rfl, _, rfl, ?_⟩
  unfold atomOk
  dsimp only
  conv => whnf
  refine call0 (refName_good n h1) ?_
  cases hn : nameS n with
  | false =>
    conv => whnf
    exact fin0 rfl trivial
  | true =>
  rw [Bool.true_and]
  conv => whnf
  refine branch_of (fun h => ?_) (fun h => ?_)
  · have h := of_decide_eq_true h
    rw [List.length_map] at h
    dsimp only at h
    have e : decide (l.length ≤ 5) = false := decide_eq_false (by omega)
    rw [e, Bool.false_and]
    conv => whnf
    exact fin0 rfl trivial
  have h := of_decide_eq_false h
  rw [List.length_map] at h
  dsimp only at h
  have e : decide (l.length ≤ 5) = true := decide_eq_true (by omega)
  rw [e, Bool.true_and]
  conv => whnf
  refine loop_of hP [0, 1, 2, 3, 13, 18, 27] [] [1, 2, 3] [65] [] (fun m st => ∃ k : Nat, m = l.length - k ∧ k ≤ l.length ∧ l.all termOk = (l.drop k).all termOk ∧ st = ⟨[(1, .ptr 65 0 0), (2, .bool false), (3, .int .i64 k)], [(65, .box 0 (Atm.c ⟨n, l⟩))]⟩) l.length ?_ ?_
  · conv => whnf
    exact ⟨0, rfl, Nat.zero_le _, rfl, rfl⟩
  · rintro m st ⟨k, rfl, hk, he, rfl⟩
    conv => whnf
    refine branch_of (fun g => ?_) (fun g => ?_)
    · have g := of_decide_eq_true g
      rw [List.length_map] at g
      have hk' : k < l.length := by dsimp only at g; omega
      rw [List.drop_eq_getElem_cons hk', List.all_cons] at he
      conv => whnf
      refine ⟨Trm.c l[k], idxM hk' rfl, ?_⟩
      conv => whnf
      refine call0 (refTerm_good l[k] (h2 _ (List.getElem_mem hk')).1 (h2 _ (List.getElem_mem hk')).2) ?_
      cases ht : termOk l[k] with
      | false =>
        rw [ht, Bool.false_and] at he
        rw [he]
        conv => whnf
        exact fin0 rfl trivial
      | true =>
        rw [ht, Bool.true_and] at he
        conv => whnf
        refine ⟨l.length - (k + 1), by omega, k + 1, rfl, by omega, he, ?_⟩
        rw [wr (by omega) (by omega)]; rfl
    · have g := of_decide_eq_false g
      rw [List.length_map] at g
      have hd : l.drop k = [] := List.drop_eq_nil_iff.2 (by dsimp only at g; omega)
      rw [hd] at he
      rw [he]
      conv => whnf
      exact fin0 rfl trivial
theorem refFact_good (f : Fct) (h1 : f.n.length ≤ 1000000) (h2 : ∀ v ∈ f.a, v.s.length ≤ 1000000) : Good Tryz.prog 74 [.agg f.c] [] [.bool (factOk f)] [] := by
  obtain ⟨n, l⟩ := f
  dsimp only at h1 h2
  refine good_of hP Tryz.func74 (by kernel_rfl) (lv := [0, 1, 2, 3, 13, 18, 27]) (js := []) ⟨rfl, rfl, rfl, rfl, rfl, rfl, _, rfl, ?_⟩
  unfold factOk
  dsimp only
  conv => whnf
  refine call0 (refName_good n h1) ?_
  cases hn : nameS n with
  | false =>
    conv => whnf
    exact fin0 rfl trivial
  | true =>
  rw [Bool.true_and]
  conv => whnf
  refine branch_of (fun h => ?_) (fun h => ?_)
  · have h := of_decide_eq_true h
    rw [List.length_map] at h
    dsimp only at h
    have e : decide (l.length ≤ 5) = false := decide_eq_false (by omega)
    rw [e, Bool.false_and]
    conv => whnf
    exact fin0 rfl trivial
  have h := of_decide_eq_false h
  rw [List.length_map] at h
  dsimp only at h
  have e : decide (l.length ≤ 5) = true := decide_eq_true (by omega)
  rw [e, Bool.true_and]
  conv => whnf
  refine loop_of hP [0, 1, 2, 3, 13, 18, 27] [] [1, 2, 3] [65] [] (fun m st => ∃ k : Nat, m = l.length - k ∧ k ≤ l.length ∧ l.all checkS = (l.drop k).all checkS ∧ st = ⟨[(1, .ptr 65 0 0), (2, .bool false), (3, .int .i64 k)], [(65, .box 0 (Fct.c ⟨n, l⟩))]⟩) l.length ?_ ?_
  · conv => whnf
    exact ⟨0, rfl, Nat.zero_le _, rfl, rfl⟩
  · rintro m st ⟨k, rfl, hk, he, rfl⟩
    conv => whnf
    refine branch_of (fun g => ?_) (fun g => ?_)
    · have g := of_decide_eq_true g
      rw [List.length_map] at g
      have hk' : k < l.length := by dsimp only at g; omega
      rw [List.drop_eq_getElem_cons hk', List.all_cons] at he
      conv => whnf
      refine ⟨Val.c l[k], idxM hk' rfl, ?_⟩
      conv => whnf
      refine call0 (refValue_good l[k] (h2 _ (List.getElem_mem hk'))) ?_
      cases ht : checkS l[k] with
      | false =>
        rw [ht, Bool.false_and] at he
        rw [he]
        conv => whnf
        exact fin0 rfl trivial
      | true =>
        rw [ht, Bool.true_and] at he
        conv => whnf
        refine ⟨l.length - (k + 1), by omega, k + 1, rfl, by omega, he, ?_⟩
        rw [wr (by omega) (by omega)]; rfl
    · have g := of_decide_eq_false g
      rw [List.length_map] at g
      have hd : l.drop k = [] := List.drop_eq_nil_iff.2 (by dsimp only at g; omega)
      rw [hd] at he
      rw [he]
      conv => whnf
      exact fin0 rfl trivial
end Go.PV
namespace Go.PV
open Go
/-! nodes that are none -/
def nodI (a : Atm) : Nod := ⟨1, a, 0, 0⟩
def nodN (k x y : Int) : Nod := ⟨k, zeroA, x, y⟩
def bentG (a : Atm) : List Nod := [⟨1, a, 0, 0⟩, ⟨2, zeroA, 0, 0⟩, ⟨1, a, 0, 0⟩, ⟨8, zeroA, 1, 2⟩]
def bentL (a : Atm) (j : Nat) : List Nod := match j with
  | 0 => [⟨1, a, 0, 0⟩, ⟨1, a, 0, 0⟩]
  | 1 => [⟨1, a, 0, 0⟩, ⟨3, zeroA, 0, 0⟩]
  | 2 => [⟨2, zeroA, 1, 0⟩, ⟨1, a, 0, 0⟩]
  | 3 => [⟨1, a, 0, 0⟩, ⟨1, a, 0, 0⟩, ⟨3, zeroA, 1, 0⟩]
  | 4 => [⟨1, a, 0, 0⟩, ⟨2, a, 0, 0⟩]
  | 5 => [⟨1, a, 0, 0⟩, ⟨2, zeroA, 0, 1⟩]
  | 6 => [⟨1, a, 0, 0⟩, ⟨1, a, 0, 0⟩, ⟨6, zeroA, 1, 0⟩]
  | 7 => [⟨1, a, 0, 0⟩, ⟨9, zeroA, 0, 0⟩]
  | 8 => [⟨1, a, 1, 0⟩]
  | _ => [⟨1, a, 0, 0⟩, ⟨1, a, 0, 0⟩, ⟨1, a, 0, 0⟩, ⟨4, zeroA, 0, 2⟩]
theorem atom_ne {a : Atm} (h : atomOk a = true) : a ≠ zeroA := by
  rintro rfl
  exact absurd h (by decide)
theorem bent_good {a : Atm} (h : atomOk a = true) : fmlOk (bentG a) = true ∧ fromN (bentG a) 3 = 0 := by
  have e : fmlOk (bentG a) = true := by
    unfold fmlOk fromsS bentG
    simp [fromsGo, nodS, armsN, h]
  refine ⟨e, ?_⟩
  unfold fromN
  rw [e]
  unfold fromsS bentG
  simp [fromsGo, nodS, armsN, h]
theorem bent_bad {a : Atm} (h : atomOk a = true) (j : Nat) : fmlOk (bentL a j) = false := by
  have hz := atom_ne h
  unfold fmlOk fromsS bentL
  split <;> simp [fromsGo, nodS, armsN, h, hz]
theorem bent_all {a : Atm} (h : atomOk a = true) (hb : a.n.length ≤ 1000000 ∧ a.a.length ≤ 1000000 ∧ ∀ t ∈ a.a, t.v.length ≤ 1000000 ∧ t.x.s.length ≤ 1000000) (j : Nat) : (bentL a j).length ≤ 1000000 ∧ (∀ o ∈ bentL a j, nodB o) ∧ fmlX (bentL a j) = [] ∧ fmlE (bentL a j) = 17 ∧ fromN (bentL a j) 0 = -1 := by
  have e := bent_bad h j
  have h17 : fmlE (bentL a j) = 17 := by unfold fmlE; rw [e]; rfl
  have hz : zeroA.n.length ≤ 1000000 ∧ zeroA.a.length ≤ 1000000 ∧ ∀ t ∈ zeroA.a, t.v.length ≤ 1000000 ∧ t.x.s.length ≤ 1000000 := ⟨Nat.zero_le _, Nat.zero_le _, fun t ht => by cases ht⟩
  have ho : ∀ o ∈ bentL a j, o.a = a ∨ o.a = zeroA := by
    unfold bentL
    split <;> simp
  refine ⟨?_, fun o hm => ?_, ?_, h17, ?_⟩
  · unfold bentL
    split <;> simp
  · unfold nodB
    rcases ho o hm with q | q <;> rw [q]
    · exact hb
    · exact hz
  · unfold fmlX
    rw [h17]
    rfl
  · unfold fromN
    rw [e]
    rfl
theorem bentG_B {a : Atm} (hb : a.n.length ≤ 1000000 ∧ a.a.length ≤ 1000000 ∧ ∀ t ∈ a.a, t.v.length ≤ 1000000 ∧ t.x.s.length ≤ 1000000) : (bentG a).length ≤ 1000000 ∧ ∀ o ∈ bentG a, nodB o := by
  have hz : zeroA.n.length ≤ 1000000 ∧ zeroA.a.length ≤ 1000000 ∧ ∀ t ∈ zeroA.a, t.v.length ≤ 1000000 ∧ t.x.s.length ≤ 1000000 := ⟨Nat.zero_le _, Nat.zero_le _, fun t ht => by cases ht⟩
  refine ⟨by simp [bentG], fun o hm => ?_⟩
  have ho : o.a = a ∨ o.a = zeroA := by
    simp only [bentG, List.mem_cons, List.not_mem_nil, or_false] at hm
    rcases hm with rfl | rfl | rfl | rfl <;> simp
  unfold nodB
  rcases ho with q | q <;> rw [q]
  · exact hb
  · exact hz
end Go.PV
namespace Go.PV
open Go
/-! nil cells of an array's rows, read as data -/
def rowP (xs : List (List V)) (i j m : Nat) (k : List (List V) → Prop) : Prop := match xs, i with
  | [], _ => False
  | z :: zs, 0 => match z[j]? with
    | some .nil => setP z j (.sl m []) fun z' => k (z' :: zs)
    | _ => False
  | x :: zs, i + 1 => rowP zs i j m fun ys => k (x :: ys)
theorem rowP_spec {j m : Nat} : ∀ {xs : List (List V)} {i : Nat} {k : List (List V) → Prop}, rowP xs i j m k → ∃ ys z zs, xs = ys ++ z :: zs ∧ z[j]? = some .nil ∧ k (ys ++ z.set j (.sl m []) :: zs)
  | [], i, k, h => h.elim
  | z :: zs, 0, k, h => by
    simp only [rowP] at h
    split at h
    · rename_i e
      rw [setP_eq] at h
      exact ⟨[], z, zs, rfl, e, h⟩
    · exact h.elim
  | x :: zs, i + 1, k, h => by
    simp only [rowP] at h
    obtain ⟨ys, z, zs', e, h1, h2⟩ := rowP_spec h
    exact ⟨x :: ys, z, zs', by rw [e]; rfl, h1, h2⟩
/-- array b, row i, cell j: nil as a slice of rows m wide -/
def daiP : List (Nat × Nat × Nat × Nat) → St → (St → Prop) → Prop
  | [], s, K => K s
  | (b, i, j, m) :: r, s, K => match s.O b with
    | some (.arr g sh n xs) => rowP xs i j m fun ys => daiP r (s.putO b (.arr g sh n ys)) K
    | _ => False
theorem daiP_ok {E : Ent} {a : Go.Act} {w : World} {K : St → Prop} : ∀ {r : List (Nat × Nat × Nat × Nat)} {s : St} {G : Gh}, RG E G s a w → daiP r s K → ∃ s' G', K s' ∧ RG E G' s' a w
  | [], s, G, hR, h => ⟨s, G, h, hR⟩
  | (b, i0, j, m) :: r, s, G, hR, h => by
    simp only [daiP] at h
    split at h
    · rename_i g sh n xs hb
      obtain ⟨ys, z, zs, hx, hz, h3⟩ := rowP_spec h
      clear h
      subst hx
      have hg2 : (Ob.arr g sh n (ys ++ z :: zs)).gen < (Ob.arr g sh n (ys ++ z.set j (.sl m []) :: zs)).gen ∨ (Ob.arr g sh n (ys ++ z :: zs)).gen = (Ob.arr g sh n (ys ++ z.set j (.sl m []) :: zs)).gen ∧ (Ob.arr g sh n (ys ++ z :: zs)).sig = (Ob.arr g sh n (ys ++ z.set j (.sl m []) :: zs)).sig := .inr ⟨rfl, by simp [Ob.sig]⟩
      have hle := sam_le (G := G) (w := w) hb hg2
      have h2 := sam_rg hR hb (.inl (hR.arr_bx hb)) hg2 (by
        generalize hq : ys ++ z :: zs = q at hb
        have hro := hR.ob b _ hb
        cases hro with
        | nil => simp at hq
        | arr _ _ _ _ cs T lim hn hb' hw h0 hl hc hzz hs ht hh =>
          subst hq
          have hiz : (ys ++ z :: zs)[ys.length]? = some z := by simp
          refine .arr _ _ _ _ cs T lim hn hb' hw h0 (fun i x hi => ?_) (by simpa using hc) hzz hs (by simpa using ht) (fun i x k p hi hk => ?_)
          · rw [List.getElem?_append] at hi
            split at hi
            · rename_i hlt
              exact hl i x (by rw [List.getElem?_append_left hlt]; exact hi)
            · rename_i hge
              cases hk : i - ys.length with
              | zero =>
                rw [hk] at hi
                simp only [List.getElem?_cons_zero, Option.some.injEq] at hi
                subst hi
                rw [List.length_set]
                exact hl _ z hiz
              | succ q =>
                rw [hk] at hi
                simp only [List.getElem?_cons_succ] at hi
                exact hl i x (by rw [List.getElem?_append_right (by omega), hk]; simpa using hi)
          · rw [List.getElem?_append] at hi
            split at hi
            · rename_i hlt
              obtain ⟨c, q1, q2⟩ := hh i x k p (by rw [List.getElem?_append_left hlt]; exact hi) hk
              exact ⟨c, q1, q2.mono hle.hs⟩
            · rename_i hge
              cases hq : i - ys.length with
              | zero =>
                rw [hq] at hi
                simp only [List.getElem?_cons_zero, Option.some.injEq] at hi
                subst hi
                have ei : i = ys.length := by omega
                subst ei
                rw [List.getElem?_set] at hk
                split at hk
                · rename_i e
                  subst e
                  split at hk
                  · cases hk
                    obtain ⟨c, q1, q2⟩ := hh _ z _ _ hiz hz
                    cases q2
                    exact ⟨_, q1, .sl0 _ _ _⟩
                  · cases hk
                · obtain ⟨c, q1, q2⟩ := hh _ z k p hiz hk
                  exact ⟨c, q1, q2.mono hle.hs⟩
              | succ q =>
                rw [hq] at hi
                simp only [List.getElem?_cons_succ] at hi
                obtain ⟨c, q1, q2⟩ := hh i x k p (by rw [List.getElem?_append_right (by omega), hq]; simpa using hi) hk
                exact ⟨c, q1, q2.mono hle.hs⟩)
      exact daiP_ok h2 h3
    · exact h.elim
theorem Sh.row {σ : Nat → Nat → Value → Prop} {n j m : Nat} {ys zs : List (List V)} {z : List V} {c : Value} (hz : z[j]? = some .nil) (h : Sh σ (.sl n (ys ++ z :: zs)) c) : Sh σ (.sl n (ys ++ z.set j (.sl m []) :: zs)) c := by
  generalize hq : ys ++ z :: zs = q at h
  cases h with
  | sl0 => simp at hq
  | sl _ _ b off cap c h0 hl hc hs hh =>
    subst hq
    have hiz : (ys ++ z :: zs)[ys.length]? = some z := by simp
    have hg : ∀ (i : Nat) (x : List V), (ys ++ z.set j (.sl m []) :: zs)[i]? = some x → (i = ys.length ∧ x = z.set j (.sl m [])) ∨ (ys ++ z :: zs)[i]? = some x := by
      intro i x hi
      rw [List.getElem?_append] at hi
      split at hi
      · rename_i hlt
        right; rw [List.getElem?_append_left hlt]; exact hi
      · rename_i hge
        cases hq : i - ys.length with
        | zero =>
          rw [hq] at hi
          simp only [List.getElem?_cons_zero, Option.some.injEq] at hi
          exact .inl ⟨by omega, hi.symm⟩
        | succ q =>
          rw [hq] at hi
          simp only [List.getElem?_cons_succ] at hi
          right; rw [List.getElem?_append_right (by omega), hq]; simpa using hi
    have hp : ∀ (i : Nat) (x : List V) (k : Nat) (p : V), (ys ++ z.set j (.sl m []) :: zs)[i]? = some x → x[k]? = some p → ∃ x' p', (ys ++ z :: zs)[i]? = some x' ∧ x'[k]? = some p' ∧ (p' = p ∨ (p' = .nil ∧ p = .sl m [])) := by
      intro i x k p hi hk
      rcases hg i x hi with ⟨e1, e2⟩ | e
      · subst e1; subst e2
        rw [List.getElem?_set] at hk
        split at hk
        · rename_i e
          subst e
          split at hk
          · cases hk; exact ⟨z, .nil, hiz, hz, .inr ⟨rfl, rfl⟩⟩
          · cases hk
        · exact ⟨z, p, hiz, hk, .inl rfl⟩
      · exact ⟨x, p, e, hk, .inl rfl⟩
    have hlen : (ys ++ z :: zs).length = (ys ++ z.set j (.sl m []) :: zs).length := by simp
    rw [hlen] at hc ⊢
    refine .sl _ _ b off cap c h0 (fun i x hi => ?_) hc (fun i x k p hi hk => ?_) (fun i x k p hi hk => ?_)
    · rcases hg i x hi with ⟨e1, e2⟩ | e
      · subst e1; subst e2; rw [List.length_set]; exact hl _ z hiz
      · exact hl i x e
    · obtain ⟨x', p', q1, q2, _⟩ := hp i x k p hi hk
      exact hs i x' k p' q1 q2
    · obtain ⟨x', p', q1, q2, q3⟩ := hp i x k p hi hk
      have := hh i x' k p' q1 q2
      rcases q3 with q3 | ⟨q3, q4⟩
      · rw [← q3]; exact this
      · subst q3; subst q4
        generalize c i k = v at this ⊢
        cases this
        exact .sl0 _ _ _
/-- slot t, row i, cell j: nil as a slice of rows m wide -/
def daiT : List (Nat × Nat × Nat × Nat) → St → (St → Prop) → Prop
  | [], s, K => K s
  | (t, i, j, m) :: r, s, K => match s.V t with
    | .sl n xs => rowP xs i j m fun ys => daiT r (s.put t (.sl n ys)) K
    | _ => False
theorem RV.slS {G : Gh} {w : World} {O : Tb} {n : Nat} {xs : List (List V)} {c : Value} (h : RV G w O (.sl n xs) c) : Sh (stab G w) (.sl n xs) c := by
  cases h with
  | any _ _ h => cases h with
    | cell _ _ h => cases h with
      | sh _ _ h => exact h
theorem daiT_ok {E : Ent} {a : Go.Act} {w : World} {K : St → Prop} : ∀ {r : List (Nat × Nat × Nat × Nat)} {s : St} {G : Gh}, RG E G s a w → daiT r s K → ∃ s' G', K s' ∧ RG E G' s' a w
  | [], s, G, hR, h => ⟨s, G, h, hR⟩
  | (t, i0, j, m) :: r, s, G, hR, h => by
    simp only [daiT] at h
    split at h
    · rename_i n xs hv
      obtain ⟨ys, z, zs, hx, hz, h3⟩ := rowP_spec h
      clear h
      subst hx
      have h1 := hR.tm t
      rw [hv] at h1
      exact daiT_ok (hR.redesc (t := t) (p := .sl n (ys ++ z.set j (.sl m []) :: zs)) (.any _ _ (.cell _ _ (.sh _ _ (h1.slS.row hz))))) h3
    · exact h.elim
/-- a stop between two pieces: nil cells told as data, then a cut -/
theorem seq_dai {P : Program} [Env P] (hP : P.follows .mixedOrders = true) {nt : Nat} {x y : Code} {s : St} {Q : Exit → St → Prop} (lv js lc ko : List Nat) (l lt : List (Nat × Nat × Nat × Nat)) (J : St → Prop)
    (h : ev P nt lv js x s (thenQ (fun s' => daiP l s' fun s'' => daiT lt s'' fun s'' => cutS lc ko [] s'' J) Q)) (h2 : ∀ s, J s → ev P nt lv js y s Q) : SeqP P nt x y s Q := by
  refine ⟨fun E a w hnt hR => wp_seq (wp_mono (ev_ok hP h E a w hnt hR) ?_)⟩
  rintro e a' w' ⟨s', hq, hR'⟩
  cases e with
  | normal =>
    have hq : daiP l s' fun s'' => daiT lt s'' fun s'' => cutS lc ko [] s'' J := hq
    obtain ⟨G, hR'⟩ := hR'
    obtain ⟨s1, G1, hq, hR1⟩ := daiP_ok hR' hq
    obtain ⟨s2, G2, hq, hR2⟩ := daiT_ok hR1 hq
    obtain ⟨s'', hJ, hR''⟩ := cutS_ok hq ⟨G2, hR2⟩
    exact ev_ok hP (h2 s'' hJ) E a' w' hnt hR''
  | exit i => exact ⟨s', hq, hR'⟩
  | goto l => exact ⟨s', hq, hR'⟩
  | ret => exact ⟨s', hq, hR'⟩
  | panic c => exact ⟨s', hq, hR'⟩
  | outgrown => exact ⟨s', hq, hR'⟩
end Go.PV
namespace Go.PV
open Go Go.Proofs
set_option maxRecDepth 100000
theorem formulaBent_good (how : Int) (a : Atm) {p1 p2 : Prop} (_ : p1) (_ : p2) : Good Tryz.prog 8 [.int .i64 how, .agg a.c] [] [.bool true] [] := by
  refine good_of hP Tryz.func8 (by kernel_rfl) (lv := [0, 1, 3, 4, 5, 6, 7, 8, 9, 16]) (js := [200005]) ⟨rfl, rfl, rfl, rfl, rfl, rfl, _, rfl, ?_⟩
  have e10 : ∃ j : Nat, j < 10 ∧ (IntKind.u64.wrap how).tmod 10 = (j : Int) := by
    have h2 : 0 ≤ IntKind.u64.wrap how := by rw [wru]; omega
    have h3 := Int.tmod_nonneg 10 h2
    have h4 := Int.tmod_lt_of_pos (IntKind.u64.wrap how) (show (0 : Int) < 10 by omega)
    exact ⟨((IntKind.u64.wrap how).tmod 10).toNat, by omega, by omega⟩
  obtain ⟨j, hj, hw⟩ := e10
  conv => whnf
  refine call0 (heavyA_good a) ?_
  cases ha : atmH a with
  | true =>
    conv => whnf
    exact fin0 rfl trivial
  | false =>
  have hB := atmH_N ha
  conv => whnf
  refine call0 (refAtom_good a ⟨hB.1, hB.2.2⟩) ?_
  cases hk : atomOk a with
  | false =>
    conv => whnf
    exact fin0 rfl trivial
  | true =>
  obtain ⟨g1, g2⟩ := bent_good hk
  obtain ⟨g3, g4⟩ := bentG_B hB
  have hgc := fcheck_good (bentG a) g3 g4
  rw [g1, if_pos rfl] at hgc
  have hgf := ffrom_good (bentG a) 3 g3 g4
  rw [g2] at hgf
  have hbc : ∀ j, Good Tryz.prog 29 [.sl 5 (nodV (bentL a j))] [] [.int .i64 17] [] := fun j => by
    have h := fcheck_good (bentL a j) (bent_all hk hB j).1 (bent_all hk hB j).2.1
    rw [bent_bad hk j, if_neg (by simp)] at h
    exact h
  have hbf : ∀ j, Good Tryz.prog 27 [.sl 5 (nodV (bentL a j)), .int .i64 0] [] [.int .i64 (-1)] [] := fun j => by
    have h := ffrom_good (bentL a j) 0 (bent_all hk hB j).1 (bent_all hk hB j).2.1
    rw [(bent_all hk hB j).2.2.2.2] at h
    exact h
  have hbt : ∀ j, Good Tryz.prog 30 [.sl 5 (nodV (bentL a j))] [] [.str [], .int .i64 17] [] := fun j => by
    have h := ftext_good (bentL a j) (bent_all hk hB j).1 (bent_all hk hB j).2.1
    rw [(bent_all hk hB j).2.2.1, (bent_all hk hB j).2.2.2.1] at h
    exact h
  have h10c : j = 0 ∨ j = 1 ∨ j = 2 ∨ j = 3 ∨ j = 4 ∨ j = 5 ∨ j = 6 ∨ j = 7 ∨ j = 8 ∨ j = 9 := by omega
  conv => whnf
  rcases h10c with rfl | rfl | rfl | rfl | rfl | rfl | rfl | rfl | rfl | rfl
  · refine seq_dai hP [0, 1, 3, 4, 5, 6, 7, 8, 9, 16] [200005] [6, 7] [87] [(87, 1, 2, 4), (87, 3, 2, 4)] [] (fun st => st = ⟨[(6, .own 87 0), (7, .sl 5 (nodV (bentL a 0)))], [(87, .arr 0 false 5 (nodV (bentG a)))]⟩) ?_ ?_
    · conv => whnf
      refine ⟨⟨⟩, by decide, ?_⟩
      conv => whnf
      rw [hw]
      conv => whnf
      refine ⟨⟨⟩, ⟨of_decide_eq_true rfl, of_decide_eq_true rfl⟩, ?_⟩
      conv => whnf
      refine ⟨_, rfl, ?_⟩
      conv => whnf
      rfl
    rintro st rfl
    conv => whnf
    refine call0 (hbt 0) ?_
    conv => whnf
    refine call0 (hgc) ?_
    conv => whnf
    refine call0 (hbc 0) ?_
    conv => whnf
    refine call0 (hbf 0) ?_
    conv => whnf
    refine call0 (hgf) ?_
    conv => whnf
    refine call0 (wakes12_good) ?_
    conv => whnf
    exact fin0 rfl trivial
  · refine seq_dai hP [0, 1, 3, 4, 5, 6, 7, 8, 9, 16] [200005] [6, 7] [87] [(87, 1, 2, 4), (87, 3, 2, 4)] [(7, 1, 2, 4)] (fun st => st = ⟨[(6, .own 87 0), (7, .sl 5 (nodV (bentL a 1)))], [(87, .arr 0 false 5 (nodV (bentG a)))]⟩) ?_ ?_
    · conv => whnf
      refine ⟨⟨⟩, by decide, ?_⟩
      conv => whnf
      rw [hw]
      conv => whnf
      refine ⟨⟨⟩, ⟨of_decide_eq_true rfl, of_decide_eq_true rfl⟩, ?_⟩
      conv => whnf
      refine ⟨_, rfl, ?_⟩
      conv => whnf
      rfl
    rintro st rfl
    conv => whnf
    refine call0 (hbt 1) ?_
    conv => whnf
    refine call0 (hgc) ?_
    conv => whnf
    refine call0 (hbc 1) ?_
    conv => whnf
    refine call0 (hbf 1) ?_
    conv => whnf
    refine call0 (hgf) ?_
    conv => whnf
    refine call0 (wakes12_good) ?_
    conv => whnf
    exact fin0 rfl trivial
  · refine seq_dai hP [0, 1, 3, 4, 5, 6, 7, 8, 9, 16] [200005] [6, 7] [87] [(87, 1, 2, 4), (87, 3, 2, 4)] [(7, 0, 2, 4)] (fun st => st = ⟨[(6, .own 87 0), (7, .sl 5 (nodV (bentL a 2)))], [(87, .arr 0 false 5 (nodV (bentG a)))]⟩) ?_ ?_
    · conv => whnf
      refine ⟨⟨⟩, by decide, ?_⟩
      conv => whnf
      rw [hw]
      conv => whnf
      refine ⟨⟨⟩, ⟨of_decide_eq_true rfl, of_decide_eq_true rfl⟩, ?_⟩
      conv => whnf
      refine ⟨_, rfl, ?_⟩
      conv => whnf
      rfl
    rintro st rfl
    conv => whnf
    refine call0 (hbt 2) ?_
    conv => whnf
    refine call0 (hgc) ?_
    conv => whnf
    refine call0 (hbc 2) ?_
    conv => whnf
    refine call0 (hbf 2) ?_
    conv => whnf
    refine call0 (hgf) ?_
    conv => whnf
    refine call0 (wakes12_good) ?_
    conv => whnf
    exact fin0 rfl trivial
  · refine seq_dai hP [0, 1, 3, 4, 5, 6, 7, 8, 9, 16] [200005] [6, 7] [87] [(87, 1, 2, 4), (87, 3, 2, 4)] [(7, 2, 2, 4)] (fun st => st = ⟨[(6, .own 87 0), (7, .sl 5 (nodV (bentL a 3)))], [(87, .arr 0 false 5 (nodV (bentG a)))]⟩) ?_ ?_
    · conv => whnf
      refine ⟨⟨⟩, by decide, ?_⟩
      conv => whnf
      rw [hw]
      conv => whnf
      refine ⟨⟨⟩, ⟨of_decide_eq_true rfl, of_decide_eq_true rfl⟩, ?_⟩
      conv => whnf
      refine ⟨_, rfl, ?_⟩
      conv => whnf
      rfl
    rintro st rfl
    conv => whnf
    refine call0 (hbt 3) ?_
    conv => whnf
    refine call0 (hgc) ?_
    conv => whnf
    refine call0 (hbc 3) ?_
    conv => whnf
    refine call0 (hbf 3) ?_
    conv => whnf
    refine call0 (hgf) ?_
    conv => whnf
    refine call0 (wakes12_good) ?_
    conv => whnf
    exact fin0 rfl trivial
  · refine seq_dai hP [0, 1, 3, 4, 5, 6, 7, 8, 9, 16] [200005] [6, 7] [87] [(87, 1, 2, 4), (87, 3, 2, 4)] [] (fun st => st = ⟨[(6, .own 87 0), (7, .sl 5 (nodV (bentL a 4)))], [(87, .arr 0 false 5 (nodV (bentG a)))]⟩) ?_ ?_
    · conv => whnf
      refine ⟨⟨⟩, by decide, ?_⟩
      conv => whnf
      rw [hw]
      conv => whnf
      refine ⟨⟨⟩, ⟨of_decide_eq_true rfl, of_decide_eq_true rfl⟩, ?_⟩
      conv => whnf
      refine ⟨_, rfl, ?_⟩
      conv => whnf
      rfl
    rintro st rfl
    conv => whnf
    refine call0 (hbt 4) ?_
    conv => whnf
    refine call0 (hgc) ?_
    conv => whnf
    refine call0 (hbc 4) ?_
    conv => whnf
    refine call0 (hbf 4) ?_
    conv => whnf
    refine call0 (hgf) ?_
    conv => whnf
    refine call0 (wakes12_good) ?_
    conv => whnf
    exact fin0 rfl trivial
  · refine seq_dai hP [0, 1, 3, 4, 5, 6, 7, 8, 9, 16] [200005] [6, 7] [87] [(87, 1, 2, 4), (87, 3, 2, 4)] [(7, 1, 2, 4)] (fun st => st = ⟨[(6, .own 87 0), (7, .sl 5 (nodV (bentL a 5)))], [(87, .arr 0 false 5 (nodV (bentG a)))]⟩) ?_ ?_
    · conv => whnf
      refine ⟨⟨⟩, by decide, ?_⟩
      conv => whnf
      rw [hw]
      conv => whnf
      refine ⟨⟨⟩, ⟨of_decide_eq_true rfl, of_decide_eq_true rfl⟩, ?_⟩
      conv => whnf
      refine ⟨_, rfl, ?_⟩
      conv => whnf
      rfl
    rintro st rfl
    conv => whnf
    refine call0 (hbt 5) ?_
    conv => whnf
    refine call0 (hgc) ?_
    conv => whnf
    refine call0 (hbc 5) ?_
    conv => whnf
    refine call0 (hbf 5) ?_
    conv => whnf
    refine call0 (hgf) ?_
    conv => whnf
    refine call0 (wakes12_good) ?_
    conv => whnf
    exact fin0 rfl trivial
  · refine seq_dai hP [0, 1, 3, 4, 5, 6, 7, 8, 9, 16] [200005] [6, 7] [87] [(87, 1, 2, 4), (87, 3, 2, 4)] [(7, 2, 2, 4)] (fun st => st = ⟨[(6, .own 87 0), (7, .sl 5 (nodV (bentL a 6)))], [(87, .arr 0 false 5 (nodV (bentG a)))]⟩) ?_ ?_
    · conv => whnf
      refine ⟨⟨⟩, by decide, ?_⟩
      conv => whnf
      rw [hw]
      conv => whnf
      refine ⟨⟨⟩, ⟨of_decide_eq_true rfl, of_decide_eq_true rfl⟩, ?_⟩
      conv => whnf
      refine ⟨_, rfl, ?_⟩
      conv => whnf
      rfl
    rintro st rfl
    conv => whnf
    refine call0 (hbt 6) ?_
    conv => whnf
    refine call0 (hgc) ?_
    conv => whnf
    refine call0 (hbc 6) ?_
    conv => whnf
    refine call0 (hbf 6) ?_
    conv => whnf
    refine call0 (hgf) ?_
    conv => whnf
    refine call0 (wakes12_good) ?_
    conv => whnf
    exact fin0 rfl trivial
  · refine seq_dai hP [0, 1, 3, 4, 5, 6, 7, 8, 9, 16] [200005] [6, 7] [87] [(87, 1, 2, 4), (87, 3, 2, 4)] [(7, 1, 2, 4)] (fun st => st = ⟨[(6, .own 87 0), (7, .sl 5 (nodV (bentL a 7)))], [(87, .arr 0 false 5 (nodV (bentG a)))]⟩) ?_ ?_
    · conv => whnf
      refine ⟨⟨⟩, by decide, ?_⟩
      conv => whnf
      rw [hw]
      conv => whnf
      refine ⟨⟨⟩, ⟨of_decide_eq_true rfl, of_decide_eq_true rfl⟩, ?_⟩
      conv => whnf
      refine ⟨_, rfl, ?_⟩
      conv => whnf
      rfl
    rintro st rfl
    conv => whnf
    refine call0 (hbt 7) ?_
    conv => whnf
    refine call0 (hgc) ?_
    conv => whnf
    refine call0 (hbc 7) ?_
    conv => whnf
    refine call0 (hbf 7) ?_
    conv => whnf
    refine call0 (hgf) ?_
    conv => whnf
    refine call0 (wakes12_good) ?_
    conv => whnf
    exact fin0 rfl trivial
  · refine seq_dai hP [0, 1, 3, 4, 5, 6, 7, 8, 9, 16] [200005] [6, 7] [87] [(87, 1, 2, 4), (87, 3, 2, 4)] [] (fun st => st = ⟨[(6, .own 87 0), (7, .sl 5 (nodV (bentL a 8)))], [(87, .arr 0 false 5 (nodV (bentG a)))]⟩) ?_ ?_
    · conv => whnf
      refine ⟨⟨⟩, by decide, ?_⟩
      conv => whnf
      rw [hw]
      conv => whnf
      refine ⟨⟨⟩, ⟨of_decide_eq_true rfl, of_decide_eq_true rfl⟩, ?_⟩
      conv => whnf
      refine ⟨_, rfl, ?_⟩
      conv => whnf
      rfl
    rintro st rfl
    conv => whnf
    refine call0 (hbt 8) ?_
    conv => whnf
    refine call0 (hgc) ?_
    conv => whnf
    refine call0 (hbc 8) ?_
    conv => whnf
    refine call0 (hbf 8) ?_
    conv => whnf
    refine call0 (hgf) ?_
    conv => whnf
    refine call0 (wakes12_good) ?_
    conv => whnf
    exact fin0 rfl trivial
  · refine seq_dai hP [0, 1, 3, 4, 5, 6, 7, 8, 9, 16] [200005] [6, 7] [87] [(87, 1, 2, 4), (87, 3, 2, 4)] [(7, 3, 2, 4)] (fun st => st = ⟨[(6, .own 87 0), (7, .sl 5 (nodV (bentL a 9)))], [(87, .arr 0 false 5 (nodV (bentG a)))]⟩) ?_ ?_
    · conv => whnf
      refine ⟨⟨⟩, by decide, ?_⟩
      conv => whnf
      rw [hw]
      conv => whnf
      refine ⟨⟨⟩, ⟨of_decide_eq_true rfl, of_decide_eq_true rfl⟩, ?_⟩
      conv => whnf
      refine ⟨_, rfl, ?_⟩
      conv => whnf
      rfl
    rintro st rfl
    conv => whnf
    refine call0 (hbt 9) ?_
    conv => whnf
    refine call0 (hgc) ?_
    conv => whnf
    refine call0 (hbc 9) ?_
    conv => whnf
    refine call0 (hbf 9) ?_
    conv => whnf
    refine call0 (hgf) ?_
    conv => whnf
    refine call0 (wakes12_good) ?_
    conv => whnf
    exact fin0 rfl trivial
end Go.PV
namespace Go.PV
open Go Go.RowKit
/-! an argument that can be read as data, as plain data -/
def cel (w : World) (b o : Nat) (u : Value) : Prop := w.cell? ⟨b, o, none⟩ = some u
def CellsW (w : World) (l : List V) (cs : List Value) : Prop := cs.length = l.length ∧ ∀ (j : Nat) (p : V), l[j]? = some p → ∃ u, cs[j]? = some u ∧ Sh (cel w) p u
theorem CellsW.one {w : World} {p : V} {u : Value} (h : Sh (cel w) p u) : CellsW w [p] [u] := ⟨rfl, fun j q hj => by
  cases j with
  | zero => simp at hj; subst hj; exact ⟨u, rfl, h⟩
  | succ j => simp at hj⟩
theorem CellsW.append {w : World} {l m : List V} {cs ds : List Value} (h : CellsW w l cs) (k : CellsW w m ds) : CellsW w (l ++ m) (cs ++ ds) := ⟨by simp [h.1, k.1], fun j p hj => by
  rcases Nat.lt_or_ge j l.length with hl | hl
  · rw [List.getElem?_append_left hl] at hj
    rw [List.getElem?_append_left (by rw [h.1]; exact hl)]; exact h.2 j p hj
  · rw [List.getElem?_append_right hl] at hj
    rw [List.getElem?_append_right (by rw [h.1]; exact hl), h.1]; exact k.2 _ p hj⟩
structure OpensV {α : Type} (n : Nat) (c : α → List V) (P : Program) (t : TypeId) (ok : α → Prop) : Prop where
  cells : P.cellsOf t = n
  len : ∀ v, (c v).length = n
  opens : ∀ {H : Type} {enc : TypeId × Value → H} {w : World} {base : Nat} {spare : Nat → Bool} {held : Bool} {fuel : Nat} {cs : List Value} {x : DataW H × List MemPlace},
    DataW.trod enc P w base spare held fuel t cs = some x → ∃ v, CellsW w (c v) cs ∧ ok v
section
variable {P : Program} {t : TypeId}
theorem OpensV.mono {α : Type} {n : Nat} {c : α → List V} {ok ok' : α → Prop} (h : OpensV n c P t ok) (hm : ∀ v, ok v → ok' v) : OpensV n c P t ok' :=
  ⟨h.cells, h.len, fun hx => by obtain ⟨v, h1, h2⟩ := h.opens hx; exact ⟨v, h1, hm v h2⟩⟩
theorem OpensV.int {k : IntKind} (hu : P.underlying t = some (.int k)) (hc : P.cellsOf t = 1) : OpensV 1 (fun n => [.int k n]) P t (fun n => (Lit.int k n).wf = true) :=
  ⟨hc, fun _ => rfl, fun hx => by obtain ⟨m, rfl, rfl, hw⟩ := DataW.trod_int hu hx; exact ⟨m, .one (.int _ _), hw⟩⟩
theorem OpensV.string (hu : P.underlying t = some .string) (hc : P.cellsOf t = 1) : OpensV 1 (fun s : List UInt8 => [.str s]) P t (fun s => s.length ≤ maxLen) :=
  ⟨hc, fun _ => rfl, fun hx => by obtain ⟨s, rfl, _, hw⟩ := DataW.trod_string hu hx; exact ⟨s.data.toList, .one (.str _), hw⟩⟩
theorem OpensV.bool (hu : P.underlying t = some .bool) (hc : P.cellsOf t = 1) : OpensV 1 (fun b => [.bool b]) P t (fun _ => True) :=
  ⟨hc, fun _ => rfl, fun hx => by obtain ⟨b, rfl, _⟩ := DataW.trod_bool hu hx; exact ⟨b, .one (.bool _), trivial⟩⟩
theorem OpensV.iso {α β : Type} {n : Nat} {c : α → List V} {ok : α → Prop} {f : β → α} (g : α → β) (hg : ∀ a, f (g a) = a) (h : OpensV n c P t ok) : OpensV n (fun b => c (f b)) P t (fun b => ok (f b)) :=
  ⟨h.cells, fun b => h.len (f b), fun hx => by
    obtain ⟨v, h1, h2⟩ := h.opens hx
    exact ⟨g v, by rw [hg]; exact h1, by rw [hg]; exact h2⟩⟩
/-- fields that lie side by side from off on -/
structure OpensVs {α : Type} (n : Nat) (c : α → List V) (P : Program) (fs : List Field) (off : Nat) (ok : α → Prop) : Prop where
  len : ∀ v, (c v).length = n
  opens : ∀ {H : Type} {enc : TypeId × Value → H} {w : World} {base : Nat} {spare : Nat → Bool} {held : Bool} {fuel : Nat} {cs : List Value},
    off + n = cs.length → (∀ (i : Nat) (f : Field), fs[i]? = some f → ∃ x, DataW.trod enc P w base spare held fuel f.type ((cs.drop f.offset).take (P.cellsOf f.type)) = some x) → ∃ v, CellsW w (c v) (cs.drop off) ∧ ok v
theorem OpensVs.one {α : Type} {n : Nat} {c : α → List V} {f : Field} {off : Nat} {ok : α → Prop} (ho : f.offset = off) (h : OpensV n c P f.type ok) : OpensVs n c P [f] off ok := by
  refine ⟨h.len, ?_⟩
  intro H enc w base spare held fuel cs hl hx
  obtain ⟨x, hx⟩ := hx 0 f rfl
  rw [ho, h.cells, List.take_of_length_le (by simp; omega)] at hx
  exact h.opens hx
theorem OpensVs.cons {α β : Type} {n m : Nat} {c : α → List V} {d : β → List V} {f : Field} {fs : List Field} {off : Nat} {ok : α → Prop} {ok' : β → Prop} (ho : f.offset = off) (h : OpensV n c P f.type ok) (h' : OpensVs m d P fs (off + n) ok') :
    OpensVs (n + m) (fun v : α × β => c v.1 ++ d v.2) P (f :: fs) off (fun v => ok v.1 ∧ ok' v.2) := by
  refine ⟨fun v => by rw [List.length_append, h.len, h'.len], ?_⟩
  intro H enc w base spare held fuel cs hl hx
  obtain ⟨x, hx0⟩ := hx 0 f rfl
  rw [ho, h.cells] at hx0
  obtain ⟨v, hv, ov⟩ := h.opens hx0
  obtain ⟨u, hu, ou⟩ := h'.opens (cs := cs) (by omega) (fun i g hg => hx (i + 1) g hg)
  refine ⟨(v, u), ?_, ov, ou⟩
  have := hv.append hu
  rwa [← List.drop_drop, List.take_append_drop] at this
theorem OpensV.struct {α : Type} {n : Nat} {c : α → List V} {fs : Array Field} {ok : α → Prop} (hu : P.underlying t = some (.struct fs)) (hc : P.cellsOf t = n) (h : OpensVs n c P fs.toList 0 ok) : OpensV n c P t ok := by
  refine ⟨hc, h.len, ?_⟩
  intro H enc w base spare held fuel cs x hx
  obtain ⟨xs, n, rfl, _, hl, hxl, hf⟩ := DataW.trod_struct hu hx
  have := h.opens (cs := cs) (enc := enc) (w := w) (base := base) (spare := spare) (held := held) (fuel := n) (by omega) (by
    intro i f hi
    have hi' : fs[i]? = some f := by simpa using hi
    have hlt : i < xs.length := by
      rw [hxl]
      exact (Array.getElem?_eq_some_iff.1 hi').1
    exact ⟨xs[i], by rw [hf i f hi', List.getElem?_eq_getElem hlt]⟩)
  simpa using this
theorem list_of {α : Type} {Q : Nat → α → Prop} : ∀ n : Nat, (∀ i, i < n → ∃ v, Q i v) → ∃ l : List α, l.length = n ∧ ∀ i v, l[i]? = some v → Q i v := by
  intro n
  induction n with
  | zero => intro _; exact ⟨[], rfl, fun i v h => by simp at h⟩
  | succ n ih =>
    intro h
    obtain ⟨l, hl, hq⟩ := ih (fun i hi => h i (by omega))
    obtain ⟨v, hv⟩ := h n (by omega)
    refine ⟨l ++ [v], by simp [hl], ?_⟩
    intro i u hu
    by_cases hi : i < l.length
    · rw [List.getElem?_append_left hi] at hu
      exact hq i u hu
    · rw [List.getElem?_append_right (by omega)] at hu
      have h0 : i - l.length = 0 := by
        by_cases h0 : i - l.length = 0
        · exact h0
        · rw [List.getElem?_eq_none (by simp; omega)] at hu; cases hu
      rw [h0] at hu
      simp at hu
      subst hu
      have : i = n := by omega
      subst this
      exact hv
theorem cell_spot {w : World} {a : Addr} {u : Value} (h : w.cell? a = some u) : a.spot = none := by
  unfold World.cell? at h
  split at h
  · cases hs : a.spot with
    | none => rfl
    | some s => rw [hs] at h; simp at h
  · cases h
/-- a slice that is read as data -/
theorem OpensV.row {α : Type} {n : Nat} {c : α → List V} {e : TypeId} {ok : α → Prop} (h : OpensV n c P e ok) (h0 : 0 < n) (hu : P.underlying t = some (.slice e))
    {H : Type} {enc : TypeId × Value → H} {w : World} {base : Nat} {spare : Nat → Bool} {held : Bool} {fuel : Nat} {cs : List Value} {x : DataW H × List MemPlace}
    (hx : DataW.trod enc P w base spare held fuel t cs = some x) : ∃ (l : List α) (A : Option Addr) (cap : Nat), cs = [.slice A l.length cap] ∧ Sh (cel w) (.sl n (l.map c)) (.slice A l.length cap) ∧ l.length ≤ cap ∧ cap ≤ maxLen ∧ ∀ v ∈ l, ok v := by
  rcases DataW.trod_slice hu hx with ⟨hcs, _⟩ | ⟨a, len, cap, elems, rest, m, rfl, hcs, _, hb, hl, hm, hlen, hel, _⟩
  · exact ⟨[], none, 0, hcs, .sl0 _ _ _, Nat.le_refl _, by unfold maxLen; omega, fun v hv => by simp at hv⟩
  · obtain ⟨l, hll, hq⟩ := list_of (Q := fun i v => ∃ cs, w.cells? base (a.add (i * P.cellsOf e)) (P.cellsOf e) = some cs ∧ CellsW w (c v) cs ∧ ok v) len (by
      intro i hi
      have h1 := hel i hi
      rw [List.getElem?_eq_getElem (by omega), Option.bind_eq_some_iff] at h1
      obtain ⟨cs, h2, h3⟩ := h1
      obtain ⟨v, h4, h5⟩ := h.opens h3
      exact ⟨v, cs, h2, h4, h5⟩)
    have hok : ∀ v ∈ l, ok v := by
      intro v hv
      obtain ⟨i, hi⟩ := List.getElem?_of_mem hv
      obtain ⟨_, _, _, h5⟩ := hq i v hi
      exact h5
    refine ⟨l, some a, cap, by rw [hll]; exact hcs, ?_, by omega, hm, hok⟩
    by_cases hz : l = []
    · subst hz; exact .sl0 _ _ _
    have at_ : ∀ (i : Nat) (v : α) (j : Nat) (p : V), l[i]? = some v → (c v)[j]? = some p → ∃ u, w.cell? ((a.add (i * n)).add j) = some u ∧ Sh (cel w) p u := by
      intro i v j p hi hj
      obtain ⟨cs, h2, h4, _⟩ := hq i v hi
      obtain ⟨_, h6, h7⟩ := World.cells?_some h2
      obtain ⟨u, h8, h9⟩ := h4.2 j p hj
      have hlt : j < P.cellsOf e := by rw [← h6]; exact (List.getElem?_eq_some_iff.1 h8).1
      have h10 := h7 j hlt
      rw [h.cells, h8] at h10
      exact ⟨u, h10, h9⟩
    have hsp : a.spot = none := by
      obtain ⟨v, r, rfl⟩ := List.exists_cons_of_ne_nil hz
      have h1 : 0 < (c v).length := by rw [h.len]; exact h0
      obtain ⟨u, h2, _⟩ := at_ 0 v 0 _ rfl (List.getElem?_eq_getElem h1)
      have := cell_spot h2
      simpa [Addr.add] using this
    obtain ⟨b, off, sp⟩ := a
    simp only at hsp
    subst hsp
    have hadd : ∀ i j : Nat, ((⟨b, off, none⟩ : Addr).add (i * n)).add j = ⟨b, off + i * n + j, none⟩ := fun i j => by
      rw [Addr.add_none, Addr.add_none]
    have hml : (l.map c).length = l.length := List.length_map _
    rw [← hml]
    refine .sl n (l.map c) b off cap (fun i j => (w.cell? ⟨b, off + i * n + j, none⟩).getD undef) h0 (fun i x hx => ?_) (by rw [hml]; omega) (fun i x j p hx hj => ?_) (fun i x j p hx hj => ?_)
    · rw [List.getElem?_map, Option.map_eq_some_iff] at hx
      obtain ⟨v, _, rfl⟩ := hx; exact h.len v
    · rw [List.getElem?_map, Option.map_eq_some_iff] at hx
      obtain ⟨v, hi, rfl⟩ := hx
      obtain ⟨u, h2, _⟩ := at_ i v j p hi hj
      rw [hadd] at h2
      show w.cell? _ = _
      rw [h2]; rfl
    · rw [List.getElem?_map, Option.map_eq_some_iff] at hx
      obtain ⟨v, hi, rfl⟩ := hx
      obtain ⟨u, h2, h3⟩ := at_ i v j p hi hj
      rw [hadd] at h2
      rw [h2]; exact h3
theorem OpensV.slice {α : Type} {n : Nat} {c : α → List V} {e : TypeId} {ok : α → Prop} (h : OpensV n c P e ok) (h0 : 0 < n) (hu : P.underlying t = some (.slice e)) (hc : P.cellsOf t = 1) : OpensV 1 (fun l : List α => [.sl n (l.map c)]) P t (fun l => l.length ≤ maxLen ∧ ∀ v ∈ l, ok v) :=
  ⟨hc, fun _ => rfl, fun hx => by
    obtain ⟨l, A, cap, rfl, h2, h3, h4, h5⟩ := h.row h0 hu hx
    exact ⟨l, .one h2, Nat.le_trans h3 h4, h5⟩⟩
/-- an argument that is a slice -/
theorem OpensV.arg {α : Type} {n : Nat} {c : α → List V} {e : TypeId} {ok : α → Prop} (h : OpensV n c P e ok) (h0 : 0 < n) (hu : P.underlying t = some (.slice e))
    {H : Type} {enc : TypeId × Value → H} {w : World} {r : Reach} {base b0 : Nat} {spare : Nat → Bool} {held : Bool} {v : Value} {x : DataW H} {ps : List MemPlace}
    (hv : Value.okWide P w r b0 t v) (hx : DataW.Trod enc P w base spare held t v x ps) : ∃ l : List α, Sh (cel w) (.sl n (l.map c)) v ∧ l.length ≤ maxLen ∧ ∀ v ∈ l, ok v := by
  obtain ⟨a, len, cap, rfl⟩ := Go.WideShapes.okWide_slice hu hv
  obtain ⟨fuel, hf⟩ := hx
  have hf' : DataW.trod enc P w base spare held fuel t [.slice a len cap] = some (x, ps) := hf
  obtain ⟨l, A, cp, h1, h2, h3, h4, h5⟩ := h.row h0 hu hf'
  cases h1
  exact ⟨l, h2, Nat.le_trans h3 h4, h5⟩
/-- an argument that is a struct -/
theorem OpensV.agg {α : Type} {n : Nat} {c : α → List V} {ok : α → Prop} (h : OpensV n c P t ok) {fs : Array Field} (hu : P.underlying t = some (.struct fs))
    {H : Type} {enc : TypeId × Value → H} {w : World} {r : Reach} {base b0 : Nat} {spare : Nat → Bool} {held : Bool} {v : Value} {x : DataW H} {ps : List MemPlace}
    (hv : Value.okWide P w r b0 t v) (hx : DataW.Trod enc P w base spare held t v x ps) : ∃ u cs, v = .agg ⟨cs⟩ ∧ CellsW w (c u) cs ∧ ok u := by
  obtain ⟨cs, rfl, _⟩ := Go.WideShapes.okWide_struct hu hv
  obtain ⟨fuel, hf⟩ := hx
  obtain ⟨u, h1, h2⟩ := h.opens hf
  exact ⟨u, cs.toList, rfl, h1, h2⟩
end
/-- what nothing owns -/
def G0 : Gh := { own := fun _ => ⟨none, none⟩, blk := fun _ => 0, cap := fun _ => 0, isnil := fun _ => false }
theorem sh0 {w : World} {p : V} {v : Value} (h : Sh (cel w) p v) : Sh (stab G0 w) p v := h.mono fun b o c hc => ⟨fun l hl => (by cases hl), hc⟩
theorem ra0 {w : World} {O : Tb} {p : V} {v : Value} (h : Sh (cel w) p v) : RA G0 w O p v := .cell _ _ (.sh _ _ (sh0 h))
theorem raAgg {w : World} {O : Tb} {l : List V} {cs : List Value} (h : CellsW w l cs) : RA G0 w O (.agg l) (.agg ⟨cs⟩) :=
  .agg _ _ ⟨by simpa using h.1, fun j p hj => by obtain ⟨u, h1, h2⟩ := h.2 j p hj; exact ⟨u, by simpa using h1, .sh _ _ (sh0 h2)⟩⟩
/-- pair by pair -/
inductive Each (R : V → Value → Prop) : List V → List Value → Prop
  | nil : Each R [] []
  | cons {p v ps vs} (h : R p v) (k : Each R ps vs) : Each R (p :: ps) (v :: vs)
theorem cellsOf {R : V → Value → Prop} : ∀ {ps : List V} {vs : List Value}, Each R ps vs → Cells R ps ⟨vs⟩
  | [], [], _ => ⟨rfl, fun j p hj => by simp at hj⟩
  | p :: ps, v :: vs, .cons h1 h2 => by
    have ih := cellsOf h2
    refine ⟨by have := ih.1; simp at this ⊢; omega, fun j q hj => ?_⟩
    cases j with
    | zero => simp at hj; subst hj; exact ⟨v, rfl, h1⟩
    | succ j => obtain ⟨c, h3, h4⟩ := ih.2 j q (by simpa using hj); exact ⟨c, by simpa using h3, h4⟩
/-- a law's call -/
theorem law_calls {P : Program} [Env P] {f : FuncId} {args : List V} {vs : List Value} {w : World} (h : Good P f args [] [.bool true] []) (hc : Each (RA G0 w (tbl [])) args vs) (hn : Env.ng P ≤ w.heap.size) (hz : Env.Z P w) :
    Calls P f ⟨vs⟩ w fun e w' => e = .returned (.bool true) ∧ Below w.heap.size w w' :=
  (h.run ⟨vs⟩ w G0 (cellsOf hc) (fun k o hk => by simp at hk) (fun k hk => ⟨by omega, rfl⟩) hz).mono fun e w' hh => by
    obtain ⟨rv, G', h1, h2, _, h3⟩ := hh
    refine ⟨?_, ⟨h3.sys, h3.tape, h3.output, h3.size, fun k hk => (h3.im k hk rfl).2⟩⟩
    rw [h1]
    cases (show RA G' w' (tbl []) (.bool true) rv from h2).bool_eq
    rfl
end Go.PV
namespace Go.PV
open Go Go.RowKit Go.Proofs
/-! what is known of arguments of these types -/
def ok9 : List UInt8 → Prop := fun s : List UInt8 => s.length ≤ maxLen
abbrev c9 : List UInt8 → List V := fun s => [.str s]
theorem o9 : OpensV 1 c9 Tryz.prog 9 ok9 := OpensV.string Tryz.underlying9 (by kernel_rfl)
def ok3 : Int → Prop := fun n : Int => (Lit.int .i64 n).wf = true
abbrev c3 : Int → List V := fun n => [.int .i64 n]
theorem o3 : OpensV 1 c3 Tryz.prog 3 ok3 := OpensV.int Tryz.underlying3 (by kernel_rfl)
theorem t129 : OpensV 3 (fun v : Int × Int × List UInt8 => c3 v.1 ++ (c3 v.2.1 ++ (c9 v.2.2))) Tryz.prog 129 (fun v => ok3 v.1 ∧ ok3 v.2.1 ∧ ok9 v.2.2) := by
  refine OpensV.struct Tryz.underlying129 (by kernel_rfl) ?_
  refine OpensVs.cons (n := 1) (m := 2) (c := c3) (d := fun w : Int × List UInt8 => c3 w.1 ++ (c9 w.2)) (ok := ok3) (ok' := fun w : Int × List UInt8 => ok3 w.1 ∧ ok9 w.2) rfl o3 ?_
  refine OpensVs.cons (n := 1) (m := 1) (c := c3) (d := fun w : List UInt8 => c9 w) (ok := ok3) (ok' := fun w : List UInt8 => ok9 w) rfl o3 ?_
  exact OpensVs.one (c := c9) (ok := ok9) rfl o9
def ok129 : Val → Prop := fun x => let v := ((fun v => (v.k, v.n, v.s) : Val → (Int × Int × List UInt8))) x; ok3 v.1 ∧ ok3 v.2.1 ∧ ok9 v.2.2
abbrev c129 : Val → List V := fun x => let v := ((fun v => (v.k, v.n, v.s) : Val → (Int × Int × List UInt8))) x; c3 v.1 ++ (c3 v.2.1 ++ (c9 v.2.2))
theorem o129 : OpensV 3 c129 Tryz.prog 129 ok129 := OpensV.iso (f := (fun v => (v.k, v.n, v.s) : Val → (Int × Int × List UInt8))) ((fun a => ⟨a.1, a.2.1, a.2.2⟩ : (Int × Int × List UInt8) → Val)) (fun _ => rfl) t129
theorem t131 : OpensV 4 (fun v : List UInt8 × Val => c9 v.1 ++ (c129 v.2)) Tryz.prog 131 (fun v => ok9 v.1 ∧ ok129 v.2) := by
  refine OpensV.struct Tryz.underlying131 (by kernel_rfl) ?_
  refine OpensVs.cons (n := 1) (m := 3) (c := c9) (d := fun w : Val => c129 w) (ok := ok9) (ok' := fun w : Val => ok129 w) rfl o9 ?_
  exact OpensVs.one (c := c129) (ok := ok129) rfl o129
def ok131 : Trm → Prop := fun x => let v := ((fun v => (v.v, v.x) : Trm → (List UInt8 × Val))) x; ok9 v.1 ∧ ok129 v.2
abbrev c131 : Trm → List V := fun x => let v := ((fun v => (v.v, v.x) : Trm → (List UInt8 × Val))) x; c9 v.1 ++ (c129 v.2)
theorem o131 : OpensV 4 c131 Tryz.prog 131 ok131 := OpensV.iso (f := (fun v => (v.v, v.x) : Trm → (List UInt8 × Val))) ((fun a => ⟨a.1, a.2⟩ : (List UInt8 × Val) → Trm)) (fun _ => rfl) t131
def ok46 : List (Trm) → Prop := fun l => l.length ≤ maxLen ∧ ∀ v ∈ l, ok131 v
abbrev c46 : List (Trm) → List V := fun l => [.sl 4 (l.map c131)]
theorem o46 : OpensV 1 c46 Tryz.prog 46 ok46 := OpensV.slice o131 (by decide) Tryz.underlying46 (by kernel_rfl)
theorem t48 : OpensV 2 (fun v : List UInt8 × List (Trm) => c9 v.1 ++ (c46 v.2)) Tryz.prog 48 (fun v => ok9 v.1 ∧ ok46 v.2) := by
  refine OpensV.struct Tryz.underlying48 (by kernel_rfl) ?_
  refine OpensVs.cons (n := 1) (m := 1) (c := c9) (d := fun w : List (Trm) => c46 w) (ok := ok9) (ok' := fun w : List (Trm) => ok46 w) rfl o9 ?_
  exact OpensVs.one (c := c46) (ok := ok46) rfl o46
def ok48 : Atm → Prop := fun x => let v := ((fun v => (v.n, v.a) : Atm → (List UInt8 × List (Trm)))) x; ok9 v.1 ∧ ok46 v.2
abbrev c48 : Atm → List V := fun x => let v := ((fun v => (v.n, v.a) : Atm → (List UInt8 × List (Trm)))) x; c9 v.1 ++ (c46 v.2)
theorem o48 : OpensV 2 c48 Tryz.prog 48 ok48 := OpensV.iso (f := (fun v => (v.n, v.a) : Atm → (List UInt8 × List (Trm)))) ((fun a => ⟨a.1, a.2⟩ : (List UInt8 × List (Trm)) → Atm)) (fun _ => rfl) t48
end Go.PV
namespace Go.PV
open Go
/-! a row's closed facts, one by one -/
theorem joined_of {P : Program} {f : FuncId} {fn : Func} {s : ChangeSpec} {c : OpenClaim} (h1 : c.wf (OpenSpec.ofChange s) = true) (h2 : laidOutB P = true) (h3 : mapsRowed P = true) (h4 : namedTie P c.named s.vars = true)
    (h5 : (P.stops == []) = true) (h6 : (P.stopKnobs == []) = true) (h7 : (c.inPlace == P.inPlace f) = true) (h8 : (c.unfollowed == P.unfollowed f) = true) (h9 : (c.recurses == P.recurses f) = true) (h10 : (c.named == P.varsNamed f) = true)
    (h11 : (c.plainKeys == P.plainKeys) = true) (h12 : P.stopsHeard = true) (h13 : P.mayEnter = true) (h14 : (c.lifted == P.liftsFinal) = true) (h15 : (P.make == some c.make) = true)
    (h16 : (fn.params.all (P.readableRec ·) && (c.stops == []) && (c.knobs == []) &&
      (c.maps == (fn.params.toList ++ s.plain.varTypes P).any (P.mapsRec ·)) && (c.ifaces == (fn.params.toList ++ s.plain.varTypes P).any (P.ifacesRec ·)) && (c.mapsOut == P.mapsAmong fn.resultTypes.toList) &&
      (c.loops == (fn.params.toList ++ s.plain.varTypes P).any (P.loopsFrom ·)) && (c.wideKeys == (fn.params.toList ++ s.plain.varTypes P ++ fn.resultTypes.toList).any (P.wideKeysFrom ·)) &&
      s.vars.all (P.varReadable ·) && fn.resultTypes.all (fun t => P.readableRec t && decide (t < P.types.size)) && (c.ifacesOut == fn.resultTypes.toList.any (P.ifacesRec ·)) && (c.loopsOut == fn.resultTypes.toList.any (P.loopsFrom ·)) && c.shortTexts.isNone &&
      (c.kinds == (if c.domain.isEmpty then [] else fn.params.toList.map fun t => match P.underlying t with | some (.int k) => some k | _ => none)) && (c.pinned == c.pinnedBy) &&
      (c.veiled == (fn.params.toList ++ s.plain.varTypes P ++ fn.resultTypes.toList).any (P.veiledRec ·)) && c.veiledFits P fn.params.toList (fn.params.toList ++ s.plain.varTypes P ++ fn.resultTypes.toList)) = true) : joinedFacts P f fn s c = true := by
  unfold joinedFacts
  rw [h1, h2, h3, h4, h5, h6, h7, h8, h9, h10, h11, h12, h13, h14, h15]
  simp only [Bool.true_and, Bool.and_true]
  exact h16
end Go.PV
namespace Go.PV
open Go Go.RowKit Go.Lib Go.Proofs Go.Proofs.YtfdopmapaaagoaaGreatDoor
theorem pow_datum : (Rows.laid_internal_strconv_uint64pow10 : DataW Unit) = Lib.tabData .u64 Lib.pow10Tab := by kernel_rfl
theorem laidT_of {r : List (String × DataW Unit)} {W : World} (h : laidMet Tryz.prog (("internal/strconv.uint64pow10", Rows.laid_internal_strconv_uint64pow10) :: r) W) : Lib.TabIs Tryz.prog W "internal/strconv.uint64pow10" .u64 Lib.pow10Tab := by
  rw [pow_datum] at h
  exact tabIs_of_head (g := 1) (by kernel_rfl) (by kernel_rfl) Tryz.underlying285 Tryz.underlying266 (by kernel_rfl) (by kernel_rfl) h
theorem star_es : "*" ++ "errors.errorString" = "*errors.errorString" := by decide
theorem row_es (u : TypeId) (h : Tryz.prog.typeName? 3 u = some "*errors.errorString") : u = 303 :=
  typeName_ptr_named (nm := "errors.errorString") (by rw [star_es]; kernel_rfl) (by kernel_rfl) (by decide) u (by rw [star_es]; exact h)
theorem globRan_of {r : List (String × DataW Unit)} {W : World} (h : laidMet Tryz.prog (("strconv.ErrRange", Rows.laid_strconv_ErrRange) :: r) W) : ∃ tp p, W.var? Tryz.prog "strconv.ErrRange" = some #[.iface tp p] := by
  obtain ⟨a, s, hv, _⟩ := laid_sentinel (g := 3) h (by kernel_rfl) (by kernel_rfl) Tryz.underlying217 row_es Tryz.underlying303 Tryz.underlying305 rfl rfl Tryz.underlying9 (by kernel_rfl) (by kernel_rfl)
  exact ⟨_, _, hv⟩
theorem globSyn_of {r : List (String × DataW Unit)} {W : World} (h : laidMet Tryz.prog (("strconv.ErrSyntax", Rows.laid_strconv_ErrSyntax) :: r) W) : ∃ tp p, W.var? Tryz.prog "strconv.ErrSyntax" = some #[.iface tp p] := by
  obtain ⟨a, s, hv, _⟩ := laid_sentinel (g := 2) h (by kernel_rfl) (by kernel_rfl) Tryz.underlying217 row_es Tryz.underlying303 Tryz.underlying305 rfl rfl Tryz.underlying9 (by kernel_rfl) (by kernel_rfl)
  exact ⟨_, _, hv⟩
end Go.PV
