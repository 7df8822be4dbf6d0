/- Part of the proof. -/
import Derived.Test.YtfdopmapaaagoaaGreatDoorM5
import Derived.ChangeArms
import Derived.DataElems
import Derived.DataReads
import Derived.SizedLaws
import Derived.ChangeSlices
import Derived.WideShapes
import Derived.ChangeShapes
import Derived.JoinedOf
import Derived.SevenTiedAt
import Derived.Test.YtfdopmapaaagoaaGreatDoorRows
import Derived.LaidMore
import Derived.Stop.LaidErr
import Derived.Lib.LaidTab
import Derived.MakeChecks
import Derived.LaidLaws
set_option linter.unusedVariables false
set_option linter.unusedSimpArgs false
namespace Go.PV
open Go Go.Proofs
set_option maxRecDepth 100000
theorem lower_good (c : UInt8) : Good Tryz.prog 196 [.int .u8 c.toNat] [] [.bool (smallB c)] [] := by
  refine good_of hP Tryz.func196 (by kernel_rfl) (lv := [0, 2]) (js := []) ⟨rfl, rfl, rfl, rfl, rfl, rfl, _, rfl, ?_⟩
  repeat' (conv => whnf); refine branch_of (fun _ => ?_) (fun _ => ?_)
  all_goals (conv => whnf); exact fin0 (by simp_all [smallB, inB] <;> first | omega | (rw [Bool.eq_iff_iff]; simp; omega)) trivial
theorem upper_good (c : UInt8) : Good Tryz.prog 197 [.int .u8 c.toNat] [] [.bool (largeB c)] [] := by
  refine good_of hP Tryz.func197 (by kernel_rfl) (lv := [0, 2]) (js := []) ⟨rfl, rfl, rfl, rfl, rfl, rfl, _, rfl, ?_⟩
  repeat' (conv => whnf); refine branch_of (fun _ => ?_) (fun _ => ?_)
  all_goals (conv => whnf); exact fin0 (by simp_all [largeB, inB] <;> first | omega | (rw [Bool.eq_iff_iff]; simp; omega)) trivial
theorem rdigit_good (c : UInt8) : Good Tryz.prog 199 [.int .u8 c.toNat] [] [.bool (digitB c)] [] := by
  refine good_of hP Tryz.func199 (by kernel_rfl) (lv := [0, 2]) (js := []) ⟨rfl, rfl, rfl, rfl, rfl, rfl, _, rfl, ?_⟩
  repeat' (conv => whnf); refine branch_of (fun _ => ?_) (fun _ => ?_)
  all_goals (conv => whnf); exact fin0 (by simp_all [digitB, inB] <;> first | omega | (rw [Bool.eq_iff_iff]; simp; omega)) trivial
theorem inner_good (c : UInt8) : Good Tryz.prog 208 [.int .u8 c.toNat] [] [.bool (letterB c)] [] := by
  refine good_of hP Tryz.func208 (by kernel_rfl) (lv := [0, 2]) (js := []) ⟨rfl, rfl, rfl, rfl, rfl, rfl, _, rfl, ?_⟩
  conv => whnf
  refine call0 (lower_good _) ?_
  cases h1 : smallB c with
  | true => conv => whnf
            exact fin0 (by simp [letterB, h1]) trivial
  | false =>
  conv => whnf
  refine call0 (upper_good _) ?_
  cases h2 : largeB c with
  | true => conv => whnf
            exact fin0 (by simp [letterB, h2]) trivial
  | false =>
  conv => whnf
  refine call0 (rdigit_good _) ?_
  cases h3 : digitB c with
  | true => conv => whnf
            exact fin0 (by simp [letterB, h3]) trivial
  | false =>
  conv => whnf
  refine fin0 ?_ trivial
  congr 2
  simp [letterB, h1, h2, h3]; omega
theorem in_good (a b c : Int) : Good Tryz.prog 185 [.int .i64 a, .int .i64 b, .int .i64 c] [] [.bool (decide (b ≤ a ∧ a ≤ c))] [] := by
  refine good_of hP Tryz.func185 (by kernel_rfl) (lv := [0, 1, 2, 6]) (js := []) ⟨rfl, rfl, rfl, rfl, rfl, rfl, _, rfl, ?_⟩
  conv => whnf
  refine branch_of (fun h => ?_) (fun h => ?_)
  · have h := of_decide_eq_true h
    conv => whnf
    exact fin0 (by simp [h]) trivial
  · have h := of_decide_eq_false h
    conv => whnf
    exact fin0 (by simp; omega) trivial
theorem word_good (s : Bs) (large : Bool) (hs : s.length ≤ 1000000) : Good Tryz.prog 146 [.str s, .bool large] [] [.bool (refWordS large s)] [] := by
  refine good_of hP Tryz.func146 (by kernel_rfl) (lv := [0, 1, 4, 5, 26, 30, 37]) (js := [26]) ⟨rfl, rfl, rfl, rfl, rfl, rfl, _, rfl, ?_⟩
  conv => whnf
  refine seq_of hP [0, 1, 4, 5, 26, 30, 37] [26] [0, 4] [] [] (fun st => refWordS large s = s.all letterB ∧ st = ⟨[(0, .str s), (4, .bool false)], []⟩) ?_ ?_
  · conv => whnf
    refine call0 (in_good s.length 1 24) ?_
    conv => whnf
    refine branch_of (fun h => ?_) (fun h => ?_)
    · rw [Bool.not_eq_true'] at h
      have h := of_decide_eq_false h
      conv => whnf
      refine fin0 ?_ trivial
      have : (decide (1 ≤ s.length) && decide (s.length ≤ 24)) = false := by simp; omega
      rw [refWordS, this]; simp
    have h : 1 ≤ s.length ∧ s.length ≤ 24 := by
      rw [Bool.not_eq_false'] at h
      have h := of_decide_eq_true h; omega
    have h0 : 0 < s.length := h.1
    obtain ⟨c, r, hcr, hc⟩ := head_at h0
    have hw : refWordS large s = ((if large then largeB c else smallB c) && s.all letterB) := by
      have e1 : decide (1 ≤ s.length) = true := by simp; omega
      have e2 : decide (s.length ≤ 24) = true := by simp; omega
      rw [refWordS, e1, e2]
      have : headB (fun c => if large then largeB c else smallB c) s = if large then largeB c else smallB c := by rw [hcr]; rfl
      rw [this]; simp
    rw [hw]
    conv => whnf
    refine ⟨c, by rw [← hc]; exact idx h0 rfl, ?_⟩
    conv => whnf
    refine call0 (upper_good _) ?_
    cases large with
    | true =>
      cases hl : largeB c with
      | false =>
        conv => whnf
        exact fin0 rfl trivial
      | true =>
        conv => whnf
        exact ⟨rfl, rfl⟩
    | false =>
      cases hl : largeB c with
      | true =>
        conv => whnf
        refine fin0 ?_ trivial
        rw [if_neg (by simp), large_not_small hl]; rfl
      | false =>
        conv => whnf
        refine ⟨c, by rw [← hc]; exact idx h0 rfl, ?_⟩
        conv => whnf
        refine call0 (lower_good _) ?_
        cases hsm : smallB c with
        | false =>
          conv => whnf
          exact fin0 rfl trivial
        | true =>
          conv => whnf
          exact ⟨rfl, rfl⟩
  rintro st ⟨hw, rfl⟩
  rw [hw]
  conv => whnf
  refine loop_of hP [0, 1, 4, 5, 26, 30, 37] [26] [0, 4, 5] [] [] (fun n st => ∃ k : Nat, n = s.length - k ∧ k ≤ s.length ∧ s.all letterB = (s.drop k).all letterB ∧ st = ⟨[(0, .str s), (4, .bool false), (5, .int .i64 k)], []⟩) s.length ?_ ?_
  · conv => whnf
    exact ⟨0, rfl, Nat.zero_le _, rfl, rfl⟩
  · rintro n st ⟨k, rfl, hk, he, rfl⟩
    conv => whnf
    refine branch_of (fun h => ?_) (fun h => ?_)
    · have h := of_decide_eq_true h
      have hk' : k < s.length := by omega
      rw [all_drop hk'] at he
      conv => whnf
      refine ⟨s[k], idx hk' rfl, ?_⟩
      conv => whnf
      refine call0 (inner_good _) ?_
      cases hl : letterB s[k] with
      | false =>
        rw [hl] at he
        conv => whnf
        exact fin0 (by rw [he]; rfl) trivial
      | true =>
        rw [hl, Bool.true_and] at he
        conv => whnf
        refine ⟨s.length - (k + 1), by omega, k + 1, rfl, by omega, he, ?_⟩
        rw [wr (by omega) (by omega)]; rfl
    · have h := of_decide_eq_false h
      have : s.drop k = [] := List.drop_eq_nil_iff.2 (by omega)
      rw [this] at he
      conv => whnf
      exact fin0 (by rw [he]; rfl) trivial
theorem refNumber_good (s : Bs) (hs : s.length ≤ 1000000) : Good Tryz.prog 181 [.str s] [] [.int .i64 ((refNumS s).getD 0), .bool (refNumS s).isSome] [] := by
  refine good_of hP Tryz.func181 (by kernel_rfl) (lv := [0, 2, 3, 4, 5, 6, 7, 8, 17, 22, 26, 33, 48, 53, 54]) (js := [200001, 17]) ⟨rfl, rfl, rfl, rfl, rfl, rfl, _, rfl, ?_⟩
  conv => whnf
  refine seq_of hP [0, 2, 3, 4, 5, 6, 7, 8, 17, 22, 26, 33, 48, 53, 54] [200001, 17] [0, 2, 3, 4] [] [] (fun st => st = ⟨[(0, .str s), (2, .int .i64 0), (3, .bool false), (4, .bool (signed s))], []⟩) ?_ ?_
  · conv => whnf
    refine branch_of (fun h => ?_) (fun h => ?_)
    · have h := of_decide_eq_true h
      obtain ⟨c, r, rfl, _⟩ := head_at (s := s) (by omega)
      conv => whnf
      refine ⟨c, ⟨by omega, rfl⟩, ?_⟩
      conv => whnf
      have : signed (c :: r) = decide ((c.toNat : Int) = 45) := by show decide _ = decide _; rw [decide_eq_decide]; omega
      rw [this]
    · have h := of_decide_eq_false h
      have hs0 : s = [] := List.eq_nil_of_length_eq_zero (by omega)
      subst hs0
      conv => whnf
      rfl
  rintro st rfl
  conv => whnf
  refine seq_of hP [0, 2, 3, 4, 5, 6, 7, 8, 17, 22, 26, 33, 48, 53, 54] [200001, 17] [0, 2, 3, 4] [] [] (fun st => st = ⟨[(0, .str (unS s)), (2, .int .i64 0), (3, .bool false), (4, .bool (signed s))], []⟩) ?_ ?_
  · conv => whnf
    cases hsg : signed s with
    | true =>
      have hl : 0 < s.length := by
        cases s with
        | nil => simp [signed, headB] at hsg
        | cons c r => simp
      conv => whnf
      refine ⟨⟨⟩, by dsimp only; omega, ?_⟩
      conv => whnf
      rw [unS, hsg]; rfl
    | false =>
      conv => whnf
      rw [unS, hsg]; rfl
  rintro st rfl
  have hul : (unS s).length ≤ s.length := by unfold unS; split <;> simp
  conv => whnf
  refine branch_of (fun h => ?_) (fun h => ?_)
  · have h := of_decide_eq_true h
    have h0 : unS s = [] := List.eq_nil_of_length_eq_zero (by omega)
    conv => whnf
    exact fin0 (by simp [refNumS, h0]) trivial
  have h := of_decide_eq_false h
  have hne : unS s ≠ [] := fun e => h (by rw [e]; rfl)
  conv => whnf
  generalize hu : unS s = u at *
  refine loop_of hP [0, 2, 3, 4, 5, 6, 7, 8, 17, 22, 26, 33, 48, 53, 54] [200001, 17] [0, 2, 3, 4, 5, 6, 7] [] [] (fun m st => ∃ (k : Nat) (n : Nat) (over : Bool), m = u.length - k ∧ k ≤ u.length ∧ n ≤ 4611686018427387904 ∧ u.all digitB = (u.drop k).all digitB ∧ (over = true → 4611686018427387904 < digN (u.take k)) ∧ (over = false → n = digN (u.take k)) ∧
    st = ⟨[(0, .str u), (2, .int .i64 0), (3, .bool false), (4, .bool (signed s)), (5, .int .i64 n), (6, .bool over), (7, .int .i64 k)], []⟩) u.length ?_ ?_
  · conv => whnf
    exact ⟨0, 0, false, rfl, Nat.zero_le _, by omega, rfl, by simp, fun _ => rfl, rfl⟩
  · rintro m st ⟨k, n, over, rfl, hk, hn, he, ho1, ho2, rfl⟩
    conv => whnf
    refine branch_of (fun h => ?_) (fun h => ?_)
    · have h := of_decide_eq_true h
      have hk' : k < u.length := by omega
      rw [all_drop hk'] at he
      conv => whnf
      refine ⟨u[k], idx hk' rfl, ?_⟩
      conv => whnf
      refine call0 (rdigit_good _) ?_
      have hdig := digN_snoc u hk'
      cases hd : digitB u[k] with
      | false =>
        conv => whnf
        rw [hd] at he
        exact fin0 (by simp [refNumS, hu, he]) trivial
      | true =>
        rw [hd, Bool.true_and] at he
        have hd := hd
        simp only [digitB, inB_iff] at hd
        conv => whnf
        refine ⟨u[k], idx hk' rfl, ?_⟩
        have hw1 : IntKind.i64.wrap (IntKind.u8.wrap ((u[k].toNat : Int) - 48)) = (u[k].toNat - 48 : Nat) := by
          have : IntKind.u8.wrap ((u[k].toNat : Int) - 48) = (u[k].toNat - 48 : Nat) := by simp [IntKind.wrap, IntKind.bits, IntKind.signed]; omega
          rw [this, wr (by omega) (by omega)]
        generalize hD : u[k].toNat - 48 = d at *
        have hw2 : IntKind.i64.wrap ((k : Int) + 1) = (k + 1 : Nat) := by rw [wr (by omega) (by omega)]; rfl
        cases over with
        | true =>
          conv => whnf
          refine ⟨u.length - (k + 1), by omega, k + 1, n, true, rfl, by omega, hn, he, fun _ => ?_, by simp, ?_⟩
          · have := ho1 rfl; omega
          · rw [hw2]
        | false =>
          conv => whnf
          have hn1 := ho2 rfl
          have hw3 : IntKind.i64.wrap ((IntKind.i64.wrap (4611686018427387904 - (d : Int))).tdiv 10) = (4611686018427387904 - d) / 10 := by
            have hd9 : d ≤ 9 := by omega
            rw [wr (n := 4611686018427387904 - (d : Int)) (by omega) (by omega), Int.tdiv_eq_ediv_of_nonneg (by omega), wr (by omega) (by omega)]
          rw [hw1]
          refine ⟨⟨⟩, by decide, ?_⟩
          rw [hw3]
          conv => whnf
          cases hov : decide ((4611686018427387904 - (d : Int)) / 10 < n) with
          | true =>
            have hov := of_decide_eq_true hov
            conv => whnf
            refine ⟨u.length - (k + 1), by omega, k + 1, n, true, rfl, by omega, hn, he, fun _ => ?_, by simp, ?_⟩
            · omega
            · rw [hw2]
          | false =>
            have hov := of_decide_eq_false hov
            conv => whnf
            refine ⟨u.length - (k + 1), by omega, k + 1, 10 * n + d, false, rfl, by omega, by omega, he, by simp, fun _ => by omega, ?_⟩
            rw [hw2, wr (n := 10 * (n : Int)) (by omega) (by omega), wr (by omega) (by omega)]; rfl
    · have h := of_decide_eq_false h
      have hku : k = u.length := by omega
      subst hku
      have hal : u.all digitB = true := by rw [he]; simp
      rw [List.take_length] at ho1 ho2
      conv => whnf
      cases over with
      | true =>
        have := ho1 rfl
        conv => whnf
        exact fin0 (by simp [refNumS, hu, this]) trivial
      | false =>
        have hn2 := ho2 rfl
        conv => whnf
        cases hsg : signed s with
        | true =>
          conv => whnf
          refine fin0 ?_ trivial
          rw [wr (by omega) (by omega)]
          have hle : ¬ 4611686018427387904 < n := by omega
          simp [refNumS, hu, hne, hal, hsg, ← hn2, hle]
        | false =>
          conv => whnf
          refine fin0 ?_ trivial
          have hle : ¬ 4611686018427387904 < n := by omega
          simp [refNumS, hu, hne, hal, hsg, ← hn2, hle]
theorem refQuoted_good (s : Bs) (hs : s.length ≤ 1000000) : Good Tryz.prog 201 [.str s] [] [.str (refQuotedS s).1, .bool (refQuotedS s).2] [] := by
  refine good_of hP Tryz.func201 (by kernel_rfl) (lv := [0, 2, 3, 4, 5, 13, 17, 20, 36, 58, 59]) (js := [13]) ⟨rfl, rfl, rfl, rfl, rfl, rfl, _, rfl, ?_⟩
  conv => whnf
  refine seq_of hP [0, 2, 3, 4, 5, 13, 17, 20, 36, 58, 59] [13] [0, 2, 3] [] [] (fun st => refQuotedS s = refQGo [] (s.drop 1) ∧ st = ⟨[(0, .str s), (2, .str []), (3, .bool false)], []⟩) ?_ ?_
  · conv => whnf
    refine branch_of (fun h => ?_) (fun h => ?_)
    · have h := of_decide_eq_true h
      conv => whnf
      refine fin0 ?_ trivial
      match s, h with
      | [], _ => rfl
      | [c], _ => rfl
      | c :: d :: r, h => simp at h; omega
    · have h := of_decide_eq_false h
      match s, h with
      | [], h => simp at h
      | [c], h => simp at h
      | c :: d :: r, h =>
        conv => whnf
        refine ⟨c, ⟨by omega, rfl⟩, ?_⟩
        conv => whnf
        refine branch_of (fun h1 => ?_) (fun h1 => ?_)
        · rw [Bool.not_eq_true'] at h1
          have h1 := of_decide_eq_false h1
          conv => whnf
          refine fin0 ?_ trivial
          rw [refQuotedS, if_neg (by omega)]
        · rw [Bool.not_eq_false'] at h1
          have h1 := of_decide_eq_true h1
          conv => whnf
          exact ⟨by rw [refQuotedS, if_pos (by omega)]; rfl, rfl⟩
  rintro st ⟨hq, rfl⟩
  conv => whnf
  refine loop_of hP [0, 2, 3, 4, 5, 13, 17, 20, 36, 58, 59] [13] [0, 2, 3, 4, 5] [] [] (fun n st => ∃ (k : Nat) (out : Bs), n = s.length + 1 - k ∧ 1 ≤ k ∧ (k ≤ s.length ∨ k = 1) ∧ out.length ≤ k ∧ refQuotedS s = refQGo out (s.drop k) ∧ st = ⟨[(0, .str s), (2, .str []), (3, .bool false), (4, .str out), (5, .int .i64 k)], []⟩) s.length ?_ ?_
  · conv => whnf
    exact ⟨1, [], by omega, by omega, .inr rfl, Nat.zero_le _, hq, rfl⟩
  · rintro n st ⟨k, out, rfl, hk0, hk, hout, he, rfl⟩
    conv => whnf
    refine branch_of (fun h => ?_) (fun h => ?_)
    · have h := of_decide_eq_true h
      have hk' : k < s.length := by omega
      have hw1 : IntKind.i64.wrap ((k : Int) + 1) = (k + 1 : Nat) := by rw [wr (by omega) (by omega)]; rfl
      rw [drop_cons hk'] at he
      conv => whnf
      refine ⟨s[k], idx hk' rfl, ?_⟩
      conv => whnf
      refine branch_of (fun h1 => ?_) (fun h1 => ?_)
      · have h1 := of_decide_eq_true h1
        rw [refQ_quote (by omega)] at he
        have hr : decide (s.drop (k + 1) = []) = decide ((k : Int) = s.length - 1) := by
          rw [decide_eq_decide, List.drop_eq_nil_iff]; omega
        rw [hr] at he
        conv => whnf
        rw [wr (by omega) (by omega)]
        refine branch_of (fun h2 => ?_) (fun h2 => ?_)
        · conv => whnf
          refine fin0 ?_ trivial
          rw [he, h2]; simp; omega
        · conv => whnf
          refine fin0 ?_ trivial
          rw [he, h2]; simp
      · have h1 := of_decide_eq_false h1
        conv => whnf
        refine ⟨s[k], idx hk' rfl, ?_⟩
        conv => whnf
        refine branch_of (fun h2 => ?_) (fun h2 => ?_)
        · have h2 := of_decide_eq_true h2
          conv => whnf
          rw [hw1]
          refine branch_of (fun h3 => ?_) (fun h3 => ?_)
          · have h3 := of_decide_eq_true h3
            have : s.drop (k + 1) = [] := List.drop_eq_nil_iff.2 (by omega)
            rw [this, refQ_bad (by omega) (.inl ⟨by omega, rfl⟩)] at he
            conv => whnf
            exact fin0 (by rw [he]) trivial
          · have h3 := of_decide_eq_false h3
            have hk2 : k + 1 < s.length := by omega
            have hw2 : IntKind.i64.wrap (((k + 1 : Nat) : Int) + 1) = (k + 2 : Nat) := by rw [wr (by omega) (by omega)]; rfl
            rw [drop_cons hk2] at he
            conv => whnf
            refine ⟨s[k + 1], idx hk2 rfl, ?_⟩
            have esc : escB s[k + 1] = true → ∃ m, m < s.length + 1 - k ∧ ∃ (k' : Nat) (out' : Bs), m = s.length + 1 - k' ∧ 1 ≤ k' ∧ (k' ≤ s.length ∨ k' = 1) ∧ out'.length ≤ k' ∧ refQuotedS s = refQGo out' (s.drop k') ∧ (⟨[(0, .str s), (2, .str []), (3, .bool false), (4, .str (out ++ (s.take (k + 2)).drop (k + 1))), (5, .int .i64 ((k + 2 : Nat) : Int))], []⟩ : St) = ⟨[(0, .str s), (2, .str []), (3, .bool false), (4, .str out'), (5, .int .i64 k')], []⟩ := fun hd => by
              refine ⟨s.length + 1 - (k + 2), by omega, k + 2, out ++ [s[k + 1]], rfl, by omega, by omega, by simp; omega, by rw [he, refQ_esc (by omega) hd], ?_⟩
              rw [sub1 hk2]
            conv => whnf
            refine branch_of (fun h4 => ?_) (fun h4 => ?_)
            · rw [Bool.not_eq_true'] at h4
              have h4 := of_decide_eq_false h4
              conv => whnf
              refine ⟨s[k + 1], idx hk2 rfl, ?_⟩
              conv => whnf
              refine branch_of (fun h5 => ?_) (fun h5 => ?_)
              · rw [Bool.not_eq_true'] at h5
                have h5 := of_decide_eq_false h5
                rw [refQ_bad (by omega) (.inl ⟨by omega, by simp [headB, escB]; omega⟩)] at he
                conv => whnf
                exact fin0 (by rw [he]) trivial
              · rw [Bool.not_eq_false'] at h5
                have h5 := of_decide_eq_true h5
                conv => whnf
                rw [hw2]
                refine ⟨⟨⟩, by dsimp only; omega, ?_⟩
                conv => whnf
                refine ⟨⟨⟩, by dsimp only; simp; omega, ?_⟩
                conv => whnf
                rw [hw2]
                exact esc (by simp [escB]; omega)
            · rw [Bool.not_eq_false'] at h4
              have h4 := of_decide_eq_true h4
              conv => whnf
              rw [hw2]
              refine ⟨⟨⟩, by dsimp only; omega, ?_⟩
              conv => whnf
              refine ⟨⟨⟩, by dsimp only; simp; omega, ?_⟩
              conv => whnf
              rw [hw2]
              exact esc (by simp [escB]; omega)
        · have h2 := of_decide_eq_false h2
          conv => whnf
          refine ⟨s[k], idx hk' rfl, ?_⟩
          conv => whnf
          have hwb : IntKind.i64.wrap (s[k].toNat : Int) = s[k].toNat := by have := UInt8.toNat_lt s[k]; rw [wr (by omega) (by omega)]
          rw [hwb]
          refine call0 (in_good _ 32 126) ?_
          conv => whnf
          refine branch_of (fun h3 => ?_) (fun h3 => ?_)
          · rw [Bool.not_eq_true'] at h3
            have h3 := of_decide_eq_false h3
            rw [refQ_bad (by omega) (.inr ⟨by omega, by simp only [plainB, inB_no]; omega⟩)] at he
            conv => whnf
            exact fin0 (by rw [he]) trivial
          · rw [Bool.not_eq_false'] at h3
            have h3 := of_decide_eq_true h3
            rw [refQ_step (by omega) (by omega) (by simp only [plainB, inB_iff]; omega)] at he
            conv => whnf
            rw [hw1]
            refine ⟨⟨⟩, by dsimp only; omega, ?_⟩
            conv => whnf
            refine ⟨⟨⟩, by dsimp only; simp; omega, ?_⟩
            conv => whnf
            rw [hw1]
            refine ⟨s.length + 1 - (k + 1), by omega, k + 1, out ++ [s[k]], rfl, by omega, by omega, by simp; omega, he, ?_⟩
            show (⟨[(0, .str s), (2, .str []), (3, .bool false), (4, .str (out ++ (s.take (k + 1)).drop k)), (5, .int .i64 ((k + 1 : Nat) : Int))], []⟩ : St) = _
            rw [sub1 hk']
    · have h := of_decide_eq_false h
      have : s.drop k = [] := List.drop_eq_nil_iff.2 (by omega)
      rw [this] at he
      conv => whnf
      exact fin0 (by rw [he]; rfl) trivial
end Go.PV
namespace Go.PV
open Go Go.Proofs
set_option maxRecDepth 100000
theorem inner9_good (c : UInt8) : Good Tryz.prog 198 [.int .u8 c.toNat] [] [.bool (letterB c)] [] := by
  refine good_of hP Tryz.func198 (by kernel_rfl) (lv := [0, 2]) (js := []) ⟨rfl, rfl, rfl, rfl, rfl, rfl, _, rfl, ?_⟩
  conv => whnf
  refine call0 (lower_good _) ?_
  cases h1 : smallB c with
  | true => conv => whnf
            exact fin0 (by simp [letterB, h1]) trivial
  | false =>
  conv => whnf
  refine call0 (upper_good _) ?_
  cases h2 : largeB c with
  | true => conv => whnf
            exact fin0 (by simp [letterB, h2]) trivial
  | false =>
  conv => whnf
  refine call0 (rdigit_good _) ?_
  cases h3 : digitB c with
  | true => conv => whnf
            exact fin0 (by simp [letterB, h3]) trivial
  | false =>
  conv => whnf
  refine fin0 ?_ trivial
  congr 2
  simp [letterB, h1, h2, h3]; omega
theorem single_good (c : UInt8) : Good Tryz.prog 200 [.int .u8 c.toNat] [] [.bool (decide (c ∈ signs1))] [] := by
  refine good_of hP Tryz.func200 (by kernel_rfl) (lv := [0, 2, 3, 4, 8, 15]) (js := []) ⟨rfl, rfl, rfl, rfl, rfl, rfl, _, rfl, ?_⟩
  conv => whnf
  refine loop_of hP [0, 2, 3, 4, 8, 15] [] [0, 2, 3, 4] [] [] (fun n st => ∃ k : Nat, n = 13 - k ∧ k ≤ 13 ∧ (c ∈ signs1 ↔ c ∈ signs1.drop k) ∧ st = ⟨[(0, .int .u8 c.toNat), (2, .bool false), (3, .str signs1), (4, .int .i64 k)], []⟩) 13 ?_ ?_
  · conv => whnf
    exact ⟨0, rfl, by omega, by rw [List.drop_zero], rfl⟩
  · rintro n st ⟨k, rfl, hk, he, rfl⟩
    have hlen : signs1.length = 13 := rfl
    conv => whnf
    refine branch_of (fun h => ?_) (fun h => ?_)
    · have h := of_decide_eq_true h
      rw [hlen] at h
      have hk' : k < signs1.length := by rw [hlen]; omega
      rw [drop_cons hk', List.mem_cons] at he
      conv => whnf
      refine ⟨signs1[k], idx hk' rfl, ?_⟩
      conv => whnf
      refine branch_of (fun h1 => ?_) (fun h1 => ?_)
      · have h1 := of_decide_eq_true h1
        have : c = signs1[k] := UInt8.toNat_inj.1 (by omega)
        conv => whnf
        exact fin0 (by rw [decide_eq_true (he.2 (.inl this))]) trivial
      · have h1 := of_decide_eq_false h1
        have : ¬ c = signs1[k] := fun e => h1 (by rw [← e])
        conv => whnf
        refine ⟨13 - (k + 1), by omega, k + 1, rfl, by omega, by rw [he]; simp [this], ?_⟩
        rw [wr (by omega) (by omega)]; rfl
    · have h := of_decide_eq_false h
      rw [hlen] at h
      have hk3 : k = 13 := by omega
      subst hk3
      have hno : ¬ c ∈ signs1 := fun hm => by have := he.1 hm; simp [signs1] at this
      conv => whnf
      exact fin0 (by rw [decide_eq_false hno]) trivial
theorem right_good (k : Int) (t : Bs) (hs : t.length ≤ 1000000) : Good Tryz.prog 132 [.int .i64 k, .str t] [] [.bool (refRight k t)] [] := by
  refine good_of hP Tryz.func132 (by kernel_rfl) (lv := [0, 1, 4, 6, 8, 9, 10, 14, 18, 26]) (js := []) ⟨rfl, rfl, rfl, rfl, rfl, rfl, _, rfl, ?_⟩
  conv => whnf
  refine branch_of (fun h1 => ?_) (fun h1 => ?_)
  · have h1 := of_decide_eq_true h1
    conv => whnf
    refine call0 (word_good t false hs) ?_
    conv => whnf
    exact fin0 (by rw [refRight, if_pos h1]) trivial
  have h1 := of_decide_eq_false h1
  conv => whnf
  refine branch_of (fun h2 => ?_) (fun h2 => ?_)
  · have h2 := of_decide_eq_true h2
    conv => whnf
    refine call0 (word_good t true hs) ?_
    conv => whnf
    exact fin0 (by rw [refRight, if_neg h1, if_pos h2]) trivial
  have h2 := of_decide_eq_false h2
  conv => whnf
  refine branch_of (fun h3 => ?_) (fun h3 => ?_)
  · have h3 := of_decide_eq_true h3
    conv => whnf
    refine call0 (refNumber_good t hs) ?_
    conv => whnf
    exact fin0 (by rw [refRight, if_neg h1, if_neg h2, if_pos h3]) trivial
  have h3 := of_decide_eq_false h3
  conv => whnf
  refine branch_of (fun h4 => ?_) (fun h4 => ?_)
  · have h4 := of_decide_eq_true h4
    conv => whnf
    refine call0 (refQuoted_good t hs) ?_
    conv => whnf
    exact fin0 (by rw [refRight, if_neg h1, if_neg h2, if_neg h3, if_pos h4]) trivial
  have h4 := of_decide_eq_false h4
  have e : refRight k t = ((decide (t.length = 1) && headB (fun c => decide (c ∈ signs1)) t) || twoB t) := by rw [refRight, if_neg h1, if_neg h2, if_neg h3, if_neg h4]
  rw [e]
  conv => whnf
  refine branch_of (fun h => ?_) (fun h => ?_)
  · have h := of_decide_eq_true h
    obtain ⟨c, r, rfl, _⟩ := head_at (s := t) (by omega)
    have hr : r = [] := by simp at h; exact List.eq_nil_of_length_eq_zero (by omega)
    subst hr
    conv => whnf
    refine ⟨c, ⟨by omega, rfl⟩, ?_⟩
    conv => whnf
    refine call0 (single_good c) ?_
    have ex : (decide (([c] : Bs).length = 1) && headB (fun c => decide (c ∈ signs1)) [c]) = decide (c ∈ signs1) := rfl
    have tw : twoB [c] = false := by simp [twoB]
    rw [ex, tw, Bool.or_false]
    cases hm : decide (c ∈ signs1) with
    | true =>
      conv => whnf
      exact fin0 rfl trivial
    | false =>
      conv => whnf
      refine branch_of (fun h => absurd (of_decide_eq_true h) (by simp)) (fun _ => ?_)
      conv => whnf
      refine branch_of (fun h => absurd (of_decide_eq_true h) (by simp)) (fun _ => ?_)
      conv => whnf
      refine branch_of (fun h => absurd (of_decide_eq_true h) (by simp)) (fun _ => ?_)
      conv => whnf
      exact fin0 (by simp) trivial
  · have h := of_decide_eq_false h
    have ex : (decide (t.length = 1) && headB (fun c => decide (c ∈ signs1)) t) = false := by rw [decide_eq_false (by omega)]; rfl
    conv => whnf
    refine branch_of (fun h => ?_) (fun t0 => ?_)
    · have h : t = [33, 61] := of_decide_eq_true h
      conv => whnf
      exact fin0 (by subst h; rfl) trivial
    have t0 : t ≠ [33, 61] := of_decide_eq_false t0
    conv => whnf
    refine branch_of (fun h => ?_) (fun t1 => ?_)
    · have h : t = [60, 61] := of_decide_eq_true h
      conv => whnf
      exact fin0 (by subst h; rfl) trivial
    have t1 : t ≠ [60, 61] := of_decide_eq_false t1
    conv => whnf
    refine branch_of (fun h => ?_) (fun t2 => ?_)
    · have h : t = [45, 62] := of_decide_eq_true h
      conv => whnf
      exact fin0 (by subst h; rfl) trivial
    have t2 : t ≠ [45, 62] := of_decide_eq_false t2
    conv => whnf
    refine fin0 ?_ trivial
    have ht : twoB t = decide (t = [61, 62]) := by simp [twoB, t0, t1, t2]
    rw [ex, Bool.false_or, ht]
theorem rsign_good (s : Bs) (hs : s.length ≤ 100000) (h0 : s ≠ []) : Good Tryz.prog 131 [.str s] [] [.int .i64 (refSign s).1, .int .i64 (refSign s).2] [] := by
  refine good_of hP Tryz.func131 (by kernel_rfl) (lv := [0, 2, 3, 4, 5, 6, 9, 25, 29, 32, 58, 62, 74, 78, 86, 91, 107, 109]) (js := [200003, 200009, 100001, 100003, 100005, 91]) ⟨rfl, rfl, rfl, rfl, rfl, rfl, _, rfl, ?_⟩
  have hl : 0 < s.length := List.length_pos_iff.2 h0
  obtain ⟨c, r, hcr, hc⟩ := head_at hl
  have hrl : s.length = r.length + 1 := by rw [hcr]; rfl
  have hdr : ∀ k, s.drop (k + 1) = r.drop k := fun k => by rw [hcr]; rfl
  conv => whnf
  refine ⟨c, by rw [← hc]; exact idx hl rfl, ?_⟩
  conv => whnf
  refine seq_of hP [0, 2, 3, 4, 5, 6, 9, 25, 29, 32, 58, 62, 74, 78, 86, 91, 107, 109] [200003, 200009, 100001, 100003, 100005, 91] [0, 2, 3, 4, 5, 9] [] [] (fun st => st = ⟨[(0, .str s), (2, .int .i64 0), (3, .int .i64 0), (4, .int .u8 c.toNat), (5, .int .i64 1), (9, .bool (decide (smallB c ∨ largeB c)))], []⟩) ?_ ?_
  · conv => whnf
    refine call0 (lower_good _) ?_
    cases h1 : smallB c with
    | true => conv => whnf
              rfl
    | false =>
      conv => whnf
      refine call0 (upper_good _) ?_
      conv => whnf
      simp only [Bool.false_eq_true, false_or, Bool.decide_eq_true]
  rintro st rfl
  conv => whnf
  refine branch_of (fun h => ?_) (fun h => ?_)
  · have h := of_decide_eq_true h
    have e : refSign s = (if smallB c then 1 else 2, 1 + (r.takeWhile letterB).length) := by rw [hcr, refSign, if_pos h]
    have htl := (List.takeWhile_prefix (p := letterB) (l := r)).length_le
    conv => whnf
    refine seq_of hP [0, 2, 3, 4, 5, 6, 9, 25, 29, 32, 58, 62, 74, 78, 86, 91, 107, 109] [200003, 200009, 100001, 100003, 100005, 91] [0, 2, 3, 4, 5] [] [] (fun st => st = ⟨[(0, .str s), (2, .int .i64 0), (3, .int .i64 0), (4, .int .u8 c.toNat), (5, .int .i64 (1 + (r.takeWhile letterB).length : Nat))], []⟩) ?_ ?_
    · conv => whnf
      refine loop_of hP [0, 2, 3, 4, 5, 6, 9, 25, 29, 32, 58, 62, 74, 78, 86, 91, 107, 109] [200003, 200009, 100001, 100003, 100005, 91] [0, 2, 3, 4, 5] [] [] (fun m st => ∃ k : Nat, m = s.length - k ∧ 1 ≤ k ∧ k ≤ s.length ∧ 1 + (r.takeWhile letterB).length = k + ((s.drop k).takeWhile letterB).length ∧ st = ⟨[(0, .str s), (2, .int .i64 0), (3, .int .i64 0), (4, .int .u8 c.toNat), (5, .int .i64 k)], []⟩) (s.length - 1) ?_ ?_
      · conv => whnf
        exact ⟨1, rfl, by omega, by omega, by rw [hdr 0, List.drop_zero], rfl⟩
      · rintro m st ⟨k, rfl, hk1, hk, he, rfl⟩
        conv => whnf
        refine branch_of (fun h2 => ?_) (fun h2 => ?_)
        · have h2 := of_decide_eq_true h2
          have hk' : k < s.length := by omega
          rw [takeWhile_drop hk'] at he
          conv => whnf
          refine ⟨s[k], idx hk' rfl, ?_⟩
          conv => whnf
          refine call0 (inner9_good _) ?_
          cases hp : letterB s[k] with
          | true =>
            rw [hp, if_pos rfl, List.length_cons] at he
            conv => whnf
            refine ⟨s.length - (k + 1), by omega, k + 1, rfl, by omega, by omega, by omega, ?_⟩
            rw [wr (by omega) (by omega)]; rfl
          | false =>
            rw [hp, if_neg (by simp)] at he
            conv => whnf
            rw [he]; rfl
        · have h2 := of_decide_eq_false h2
          have hd : s.drop k = [] := List.drop_eq_nil_iff.2 (by omega)
          rw [hd] at he
          conv => whnf
          rw [he]; rfl
    rintro st rfl
    conv => whnf
    refine call0 (lower_good _) ?_
    cases hsm : smallB c with
    | true =>
      rw [hsm] at e
      conv => whnf
      exact fin0 (by rw [e]; rfl) trivial
    | false =>
      rw [hsm] at e
      conv => whnf
      exact fin0 (by rw [e]; rfl) trivial
  · have hn := of_decide_eq_false h
    conv => whnf
    refine seq_of hP [0, 2, 3, 4, 5, 6, 9, 25, 29, 32, 58, 62, 74, 78, 86, 91, 107, 109] [200003, 200009, 100001, 100003, 100005, 91] [0, 2, 3, 4, 5, 32] [] [] (fun st => st = ⟨[(0, .str s), (2, .int .i64 0), (3, .int .i64 0), (4, .int .u8 c.toNat), (5, .int .i64 1), (32, .bool (decide (digitB c ∨ (c.toNat = 45 ∧ headB digitB r))))], []⟩) ?_ ?_
    · conv => whnf
      refine call0 (rdigit_good _) ?_
      cases h1 : digitB c with
      | true => conv => whnf
                rfl
      | false =>
        conv => whnf
        refine branch_of (fun h2 => ?_) (fun h2 => ?_)
        · have h2 : c.toNat = 45 := by have := of_decide_eq_true h2; omega
          conv => whnf
          refine branch_of (fun h3 => ?_) (fun h3 => ?_)
          · have h3 := of_decide_eq_true h3
            have h31 : 1 < s.length := by omega
            have hd : headB digitB r = digitB s[1] := by
              have : r = s[1] :: s.drop 2 := by
                have e := drop_cons h31
                conv at e => lhs; rw [hcr]
                simpa using e
              rw [this]; rfl
            conv => whnf
            refine ⟨s[1], idx h31 rfl, ?_⟩
            conv => whnf
            refine call0 (rdigit_good _) ?_
            conv => whnf
            simp only [h2, hd, Bool.false_eq_true, false_or, true_and, Bool.decide_eq_true]
          · have h3 := of_decide_eq_false h3
            have hr : r = [] := by
              rw [hcr] at h3; simp at h3
              exact List.eq_nil_of_length_eq_zero (by omega)
            subst hr
            conv => whnf
            simp only [h2, headB, Bool.false_eq_true, and_false, or_false, decide_false]
        · have h2 : c.toNat ≠ 45 := by have := of_decide_eq_false h2; omega
          conv => whnf
          simp only [h2, false_and, Bool.false_eq_true, or_false, decide_false]
    rintro st rfl
    conv => whnf
    refine branch_of (fun h => ?_) (fun h => ?_)
    · have h := of_decide_eq_true h
      have e : refSign s = (3, 1 + (r.takeWhile digitB).length) := by rw [hcr, refSign, if_neg hn, if_pos h]
      have htl := (List.takeWhile_prefix (p := digitB) (l := r)).length_le
      conv => whnf
      refine seq_of hP [0, 2, 3, 4, 5, 6, 9, 25, 29, 32, 58, 62, 74, 78, 86, 91, 107, 109] [200003, 200009, 100001, 100003, 100005, 91] [0, 2, 3, 4, 5] [] [] (fun st => st = ⟨[(0, .str s), (2, .int .i64 0), (3, .int .i64 0), (4, .int .u8 c.toNat), (5, .int .i64 (1 + (r.takeWhile digitB).length : Nat))], []⟩) ?_ ?_
      · conv => whnf
        refine loop_of hP [0, 2, 3, 4, 5, 6, 9, 25, 29, 32, 58, 62, 74, 78, 86, 91, 107, 109] [200003, 200009, 100001, 100003, 100005, 91] [0, 2, 3, 4, 5] [] [] (fun m st => ∃ k : Nat, m = s.length - k ∧ 1 ≤ k ∧ k ≤ s.length ∧ 1 + (r.takeWhile digitB).length = k + ((s.drop k).takeWhile digitB).length ∧ st = ⟨[(0, .str s), (2, .int .i64 0), (3, .int .i64 0), (4, .int .u8 c.toNat), (5, .int .i64 k)], []⟩) (s.length - 1) ?_ ?_
        · conv => whnf
          exact ⟨1, rfl, by omega, by omega, by rw [hdr 0, List.drop_zero], rfl⟩
        · rintro m st ⟨k, rfl, hk1, hk, he, rfl⟩
          conv => whnf
          refine branch_of (fun h2 => ?_) (fun h2 => ?_)
          · have h2 := of_decide_eq_true h2
            have hk' : k < s.length := by omega
            rw [takeWhile_drop hk'] at he
            conv => whnf
            refine ⟨s[k], idx hk' rfl, ?_⟩
            conv => whnf
            refine call0 (rdigit_good _) ?_
            cases hp : digitB s[k] with
            | true =>
              rw [hp, if_pos rfl, List.length_cons] at he
              conv => whnf
              refine ⟨s.length - (k + 1), by omega, k + 1, rfl, by omega, by omega, by omega, ?_⟩
              rw [wr (by omega) (by omega)]; rfl
            | false =>
              rw [hp, if_neg (by simp)] at he
              conv => whnf
              rw [he]; rfl
          · have h2 := of_decide_eq_false h2
            have hd : s.drop k = [] := List.drop_eq_nil_iff.2 (by omega)
            rw [hd] at he
            conv => whnf
            rw [he]; rfl
      rintro st rfl
      conv => whnf
      exact fin0 (by rw [e]) trivial
    · have hn2 := of_decide_eq_false h
      conv => whnf
      refine branch_of (fun h => ?_) (fun h => ?_)
      · have h : c.toNat = 34 := by have := of_decide_eq_true h; omega
        have e : refSign s = if refText 1 r = 0 then (0, 0) else (4, refText 1 r) := by rw [hcr, refSign, if_neg hn, if_neg hn2, if_pos h]
        conv => whnf
        refine seq_of hP [0, 2, 3, 4, 5, 6, 9, 25, 29, 32, 58, 62, 74, 78, 86, 91, 107, 109] [200003, 200009, 100001, 100003, 100005, 91] [0, 2, 3, 5] [] [] (fun st => ∃ q : Nat, q ≤ s.length + 1 ∧ ((q < s.length ∧ refText 1 r = q + 1) ∨ (s.length ≤ q ∧ refText 1 r = 0)) ∧ st = ⟨[(0, .str s), (2, .int .i64 0), (3, .int .i64 0), (5, .int .i64 q)], []⟩) ?_ ?_
        · conv => whnf
          refine loop_of hP [0, 2, 3, 4, 5, 6, 9, 25, 29, 32, 58, 62, 74, 78, 86, 91, 107, 109] [200003, 200009, 100001, 100003, 100005, 91] [0, 2, 3, 5] [] [] (fun m st => ∃ k : Nat, m = s.length + 1 - k ∧ 1 ≤ k ∧ k ≤ s.length + 1 ∧ refText 1 r = refText k (s.drop k) ∧ st = ⟨[(0, .str s), (2, .int .i64 0), (3, .int .i64 0), (5, .int .i64 k)], []⟩) s.length ?_ ?_
          · conv => whnf
            exact ⟨1, by omega, by omega, by omega, by rw [hdr 0, List.drop_zero], rfl⟩
          · rintro m st ⟨k, rfl, hk1, hk, he, rfl⟩
            conv => whnf
            refine branch_of (fun h2 => ?_) (fun h2 => ?_)
            · have h2 := of_decide_eq_true h2
              have hk' : k < s.length := by omega
              have hw1 : IntKind.i64.wrap ((k : Int) + 1) = (k + 1 : Nat) := by rw [wr (by omega) (by omega)]; rfl
              have hw2 : IntKind.i64.wrap (((k + 1 : Nat) : Int) + 1) = (k + 2 : Nat) := by rw [wr (by omega) (by omega)]; rfl
              rw [drop_cons hk'] at he
              conv => whnf
              refine ⟨s[k], idx hk' rfl, ?_⟩
              conv => whnf
              refine branch_of (fun h3 => ?_) (fun h3 => ?_)
              · rw [Bool.not_eq_true'] at h3
                have h3 := of_decide_eq_false h3
                conv => whnf
                refine ⟨s[k], idx hk' rfl, ?_⟩
                conv => whnf
                refine branch_of (fun h4 => ?_) (fun h4 => ?_)
                · have h4 := of_decide_eq_true h4
                  conv => whnf
                  rw [hw1, hw2]
                  refine ⟨s.length + 1 - (k + 2), by omega, k + 2, rfl, by omega, by omega, ?_, rfl⟩
                  rw [he]
                  by_cases hk2 : k + 1 < s.length
                  · rw [drop_cons hk2, refText_esc (by omega)]
                  · have h1 : s.drop (k + 1) = [] := List.drop_eq_nil_iff.2 (by omega)
                    have h2 : s.drop (k + 2) = [] := List.drop_eq_nil_iff.2 (by omega)
                    rw [h1, h2, refText_end (by omega)]; rfl
                · have h4 := of_decide_eq_false h4
                  conv => whnf
                  rw [hw1]
                  refine ⟨s.length + 1 - (k + 1), by omega, k + 1, rfl, by omega, by omega, ?_, rfl⟩
                  rw [he, refText_step (by omega) (by omega)]
              · rw [Bool.not_eq_false'] at h3
                have h3 := of_decide_eq_true h3
                rw [refText_quote (by omega)] at he
                conv => whnf
                exact ⟨k, by omega, .inl ⟨hk', he⟩, rfl⟩
            · have h2 := of_decide_eq_false h2
              have hd : s.drop k = [] := List.drop_eq_nil_iff.2 (by omega)
              rw [hd] at he
              conv => whnf
              exact ⟨k, hk, .inr ⟨by omega, he⟩, rfl⟩
        rintro st ⟨q, hq0, hq, rfl⟩
        conv => whnf
        refine branch_of (fun h2 => ?_) (fun h2 => ?_)
        · have h2 := of_decide_eq_true h2
          have h3 : refText 1 r = 0 := by rcases hq with ⟨h3, _⟩ | ⟨_, h3⟩; omega; exact h3
          rw [if_pos h3] at e
          conv => whnf
          exact fin0 (by rw [e]; rfl) trivial
        · have h2 := of_decide_eq_false h2
          have h3 : refText 1 r = q + 1 := by rcases hq with ⟨_, h3⟩ | ⟨h3, _⟩; exact h3; omega
          rw [if_neg (by omega), h3] at e
          conv => whnf
          refine fin0 ?_ trivial
          rw [e, wr (by omega) (by omega)]; rfl
      · have hn3 : c.toNat ≠ 34 := by have := of_decide_eq_false h; omega
        have es : refSign s = if twoB (s.take 2) then (5, 2) else if c ∈ signs1 then (5, 1) else (0, 0) := by
          conv => lhs; rw [hcr]
          rw [refSign, if_neg hn, if_neg hn2, if_neg hn3, ← hcr]
        conv => whnf
        refine seq_of hP [0, 2, 3, 4, 5, 6, 9, 25, 29, 32, 58, 62, 74, 78, 86, 91, 107, 109] [200003, 200009, 100001, 100003, 100005, 91] [0, 2, 3, 4, 6] [] [] (fun st => ∃ w : Bs, twoB w = twoB (s.take 2) ∧ st = ⟨[(0, .str s), (2, .int .i64 0), (3, .int .i64 0), (4, .int .u8 c.toNat), (6, .str w)], []⟩) ?_ ?_
        · conv => whnf
          refine branch_of (fun h2 => ?_) (fun h2 => ?_)
          · have h2 := of_decide_eq_true h2
            conv => whnf
            refine ⟨⟨⟩, by dsimp only; omega, ?_⟩
            conv => whnf
            exact ⟨s.take 2, rfl, rfl⟩
          · have h2 := of_decide_eq_false h2
            have hr : r = [] := List.eq_nil_of_length_eq_zero (by omega)
            conv => whnf
            refine ⟨[], ?_, rfl⟩
            rw [hcr, hr]; simp [twoB]
        rintro st ⟨w, htw, rfl⟩
        conv => whnf
        refine branch_of (fun h => ?_) (fun t0 => ?_)
        · have h : w = [33, 61] := of_decide_eq_true h
          have e : refSign s = (5, 2) := by rw [es, ← htw, if_pos (by rw [h]; rfl)]
          conv => whnf
          exact fin0 (by rw [e]; rfl) trivial
        have t0 : w ≠ [33, 61] := of_decide_eq_false t0
        conv => whnf
        refine branch_of (fun h => ?_) (fun t1 => ?_)
        · have h : w = [60, 61] := of_decide_eq_true h
          have e : refSign s = (5, 2) := by rw [es, ← htw, if_pos (by rw [h]; rfl)]
          conv => whnf
          exact fin0 (by rw [e]; rfl) trivial
        have t1 : w ≠ [60, 61] := of_decide_eq_false t1
        conv => whnf
        refine branch_of (fun h => ?_) (fun t2 => ?_)
        · have h : w = [45, 62] := of_decide_eq_true h
          have e : refSign s = (5, 2) := by rw [es, ← htw, if_pos (by rw [h]; rfl)]
          conv => whnf
          exact fin0 (by rw [e]; rfl) trivial
        have t2 : w ≠ [45, 62] := of_decide_eq_false t2
        conv => whnf
        refine branch_of (fun h => ?_) (fun t3 => ?_)
        · have h : w = [61, 62] := of_decide_eq_true h
          have e : refSign s = (5, 2) := by rw [es, ← htw, if_pos (by rw [h]; rfl)]
          conv => whnf
          exact fin0 (by rw [e]; rfl) trivial
        have t3 : w ≠ [61, 62] := of_decide_eq_false t3
        have hw : twoB w = false := by simp [twoB, t0, t1, t2, t3]
        rw [← htw, hw, if_neg (by simp)] at es
        conv => whnf
        refine call0 (single_good c) ?_
        cases hm : decide (c ∈ signs1) with
        | true =>
          rw [if_pos (of_decide_eq_true hm)] at es
          conv => whnf
          exact fin0 (by rw [es]; rfl) trivial
        | false =>
          rw [if_neg (of_decide_eq_false hm)] at es
          conv => whnf
          exact fin0 (by rw [es]; rfl) trivial
end Go.PV
namespace Go.PV
open Go Go.Proofs
set_option maxRecDepth 100000
theorem rlex_good (s : Bs) (hs : s.length ≤ 20000) : Good Tryz.prog 67 [.str s] [] [.sl 4 (toksV (toksR s)), .agg [.int .i64 (posR s).1, .int .i64 (posR s).2], .int .i64 (errR s)] [] := by
  refine good_of hP Tryz.func67 (by kernel_rfl) (lv := [0, 2, 3, 4, 5, 6, 7, 8, 9, 10, 11, 12, 16, 22, 45, 59, 74, 90, 95, 107]) (js := [100002, 100003, 100005]) ⟨rfl, rfl, rfl, rfl, rfl, rfl, _, rfl, ?_⟩
  conv => whnf
  refine branch_of (fun h => absurd (of_decide_eq_true h) (by omega)) (fun _ => ?_)
  conv => whnf
  refine loop_of hP [0, 2, 3, 4, 5, 6, 7, 8, 9, 10, 11, 12, 16, 22, 45, 59, 74, 90, 95, 107] [100002, 100003, 100005] [0, 2, 3, 4, 5, 6, 7, 8] [67, 69, 70, 71] [.slot 6 4] (fun m st => ∃ (i f : Nat) (acc : List Tok), m = s.length - i ∧ i ≤ s.length ∧ s.length ≤ f + i ∧ acc.length ≤ i ∧ toksS s = (acc ++ (toksGo s f (i + blanksN false (s.drop i))).1, (toksGo s f (i + blanksN false (s.drop i))).2) ∧
    st = ⟨[(0, .str s), (2, .nil), (3, .ptr 67 0 0), (4, .int .i64 0), (5, .ptr 69 0 0), (6, .own 70 0), (7, .ptr 71 0 0), (8, .int .i64 i)], [(67, .box 0 [.int .i64 0, .int .i64 0]), (69, .box 0 [.int .i64 0, .int .i64 0]), (70, .arr 0 false 4 (toksV acc)), (71, .box 0 [.int .i64 (posS (s.take i)).1, .int .i64 (posS (s.take i)).2])]⟩) s.length ?_ ?_
  · conv => whnf
    exact ⟨0, s.length, [], rfl, Nat.zero_le _, by omega, Nat.zero_le _, by rw [List.drop_zero, Nat.zero_add]; rfl, rfl⟩
  · rintro m st ⟨i, f, acc, rfl, hi, hf, hacc, he, rfl⟩
    conv => whnf
    refine branch_of (fun h => ?_) (fun h => ?_)
    · have h := of_decide_eq_true h
      have hi' : i < s.length := by omega
      conv => whnf
      refine ⟨s[i], idx hi' rfl, ?_⟩
      conv => whnf
      refine seq_of hP [0, 2, 3, 4, 5, 6, 7, 8, 9, 10, 11, 12, 16, 22, 45, 59, 74, 90, 95, 107] [100002, 100003, 100005] [0, 2, 3, 4, 5, 6, 7, 8, 10] [67, 69, 70, 71] [] (fun st => ∃ (n f : Nat) (acc : List Tok), 1 ≤ n ∧ i + n ≤ s.length ∧ s.length ≤ f + (i + n) ∧ acc.length ≤ i + n ∧ toksS s = (acc ++ (toksGo s f (i + n + blanksN false (s.drop (i + n)))).1, (toksGo s f (i + n + blanksN false (s.drop (i + n)))).2) ∧
        st = ⟨[(0, .str s), (2, .nil), (3, .ptr 67 0 0), (4, .int .i64 0), (5, .ptr 69 0 0), (6, .own 70 0), (7, .ptr 71 0 0), (8, .int .i64 i), (10, .int .i64 n)], [(67, .box 0 [.int .i64 0, .int .i64 0]), (69, .box 0 [.int .i64 0, .int .i64 0]), (70, .arr 0 false 4 (toksV acc)), (71, .box 0 [.int .i64 (posS (s.take i)).1, .int .i64 (posS (s.take i)).2])]⟩) ?_ ?_
      · conv => whnf
        have hb : s[i].toNat ≠ 37 → blankB s[i] = true → blanksN false (s.drop i) = 1 + blanksN false (s.drop (i + 1)) := fun h1 h2 => by
          rw [drop_cons hi', blanksN, if_neg h1, if_pos h2]
        have hone : blankB s[i] = true → i + 1 ≤ s.length ∧ toksS s = (acc ++ (toksGo s f (i + 1 + blanksN false (s.drop (i + 1)))).1, (toksGo s f (i + 1 + blanksN false (s.drop (i + 1)))).2) := fun h2 => by
          have h1 : s[i].toNat ≠ 37 := by simp [blankB] at h2; omega
          rw [hb h1 h2, ← Nat.add_assoc] at he
          exact ⟨by omega, he⟩
        refine branch_of (fun h1 => ?_) (fun b0 => ?_)
        · obtain ⟨q1, q2⟩ := hone (by have := of_decide_eq_true h1; simp [blankB]; omega)
          conv => whnf
          exact ⟨1, f, acc, Nat.le_refl _, q1, by omega, by omega, q2, rfl⟩
        have b0 := of_decide_eq_false b0
        conv => whnf
        refine branch_of (fun h1 => ?_) (fun b1 => ?_)
        · obtain ⟨q1, q2⟩ := hone (by have := of_decide_eq_true h1; simp [blankB]; omega)
          conv => whnf
          exact ⟨1, f, acc, Nat.le_refl _, q1, by omega, by omega, q2, rfl⟩
        have b1 := of_decide_eq_false b1
        conv => whnf
        refine branch_of (fun h1 => ?_) (fun b2 => ?_)
        · obtain ⟨q1, q2⟩ := hone (by have := of_decide_eq_true h1; simp [blankB]; omega)
          conv => whnf
          exact ⟨1, f, acc, Nat.le_refl _, q1, by omega, by omega, q2, rfl⟩
        have b2 := of_decide_eq_false b2
        conv => whnf
        refine branch_of (fun h1 => ?_) (fun b3 => ?_)
        · obtain ⟨q1, q2⟩ := hone (by have := of_decide_eq_true h1; simp [blankB]; omega)
          conv => whnf
          exact ⟨1, f, acc, Nat.le_refl _, q1, by omega, by omega, q2, rfl⟩
        have b3 := of_decide_eq_false b3
        conv => whnf
        refine branch_of (fun h1 => ?_) (fun h1 => ?_)
        · have h1 := of_decide_eq_true h1
          have hl := lineN_le (s.drop i)
          rw [List.length_drop] at hl
          have hl1 : 1 ≤ lineN (s.drop i) := by
            rw [drop_cons hi']; unfold lineN; rw [List.takeWhile_cons, if_pos (by simp; omega)]; simp
          have done : ∀ k, lineN (s.drop i) = k → 1 ≤ k ∧ i + k ≤ s.length ∧ s.length ≤ f + (i + k) ∧ acc.length ≤ i + k ∧ toksS s = (acc ++ (toksGo s f (i + k + blanksN false (s.drop (i + k)))).1, (toksGo s f (i + k + blanksN false (s.drop (i + k)))).2) := fun k hk => by
            subst hk
            have e2 := blanksN_line (s.drop i)
            have e3 : blanksN true (s.drop i) = 1 + blanksN true (s.drop (i + 1)) := by rw [drop_cons hi', blanksN, if_neg (by omega)]
            have e4 : blanksN false (s.drop i) = 1 + blanksN true (s.drop (i + 1)) := by rw [drop_cons hi', blanksN, if_pos (by omega)]
            rw [List.drop_drop] at e2
            rw [e4, ← e3, e2, ← Nat.add_assoc] at he
            exact ⟨hl1, by omega, by omega, by omega, he⟩
          conv => whnf
          refine loop_of hP [0, 2, 3, 4, 5, 6, 7, 8, 9, 10, 11, 12, 16, 22, 45, 59, 74, 90, 95, 107] [100002, 100003, 100005] [0, 2, 3, 4, 5, 6, 7, 8, 10] [67, 69, 70, 71] [] (fun m st => ∃ k : Nat, m = s.length - k ∧ i + k ≤ s.length ∧ lineN (s.drop i) = k + lineN (s.drop (i + k)) ∧ st = ⟨[(0, .str s), (2, .nil), (3, .ptr 67 0 0), (4, .int .i64 0), (5, .ptr 69 0 0), (6, .own 70 0), (7, .ptr 71 0 0), (8, .int .i64 i), (10, .int .i64 k)], [(67, .box 0 [.int .i64 0, .int .i64 0]), (69, .box 0 [.int .i64 0, .int .i64 0]), (70, .arr 0 false 4 (toksV acc)), (71, .box 0 [.int .i64 (posS (s.take i)).1, .int .i64 (posS (s.take i)).2])]⟩) s.length ?_ ?_
          · conv => whnf
            exact ⟨0, rfl, by omega, by simp, rfl⟩
          · rintro m st ⟨k, rfl, hk, hln, rfl⟩
            have hw : IntKind.i64.wrap ((i : Int) + (k : Int)) = (i + k : Nat) := by rw [wr (by omega) (by omega)]; omega
            have hw4 : IntKind.i64.wrap ((k : Int) + 1) = (k + 1 : Nat) := by rw [wr (by omega) (by omega)]; rfl
            conv => whnf
            rw [hw]
            refine branch_of (fun h2 => ?_) (fun h2 => ?_)
            · have h2 := of_decide_eq_true h2
              have hk' : i + k < s.length := by omega
              conv => whnf
              refine ⟨s[i + k], idx hk' hw, ?_⟩
              conv => whnf
              refine branch_of (fun h3 => ?_) (fun h3 => ?_)
              · rw [Bool.not_eq_true'] at h3
                have h3 := of_decide_eq_false h3
                have e : lineN (s.drop (i + k)) = 1 + lineN (s.drop (i + k + 1)) := by
                  rw [drop_cons hk']; unfold lineN; rw [List.takeWhile_cons, if_pos (by simp; omega), List.length_cons]; omega
                conv => whnf
                refine ⟨s.length - (k + 1), by omega, k + 1, rfl, by omega, by rw [hln, e, Nat.add_assoc i k 1]; omega, ?_⟩
                rw [hw4]
              · rw [Bool.not_eq_false'] at h3
                have h3 := of_decide_eq_true h3
                have e : lineN (s.drop (i + k)) = 0 := by
                  rw [drop_cons hk']; unfold lineN; rw [List.takeWhile_cons, if_neg (by simp; omega)]; rfl
                obtain ⟨d1, d2, d3, d4, d5⟩ := done k (by omega)
                conv => whnf
                exact ⟨k, f, acc, d1, d2, d3, d4, d5, rfl⟩
            · have h2 := of_decide_eq_false h2
              have hd : s.drop (i + k) = [] := List.drop_eq_nil_iff.2 (by omega)
              have e : lineN (s.drop (i + k)) = 0 := by rw [hd]; rfl
              obtain ⟨d1, d2, d3, d4, d5⟩ := done k (by omega)
              conv => whnf
              exact ⟨k, f, acc, d1, d2, d3, d4, d5, rfl⟩
        · have h1 := of_decide_eq_false h1
          have hz : blanksN false (s.drop i) = 0 := by
            rw [drop_cons hi', blanksN, if_neg (by omega), if_neg (by simp [blankB]; omega)]
          rw [hz, Nat.add_zero] at he
          obtain ⟨f, rfl⟩ : ∃ f', f = f' + 1 := ⟨f - 1, by omega⟩
          rw [toksGo, if_pos hi'] at he
          dsimp only at he
          have hne : s.drop i ≠ [] := fun e => by have := congrArg List.length e; simp at this; omega
          obtain ⟨sr1, sr2⟩ := sign_ref (s.drop i) hne
          have hnl := nextS_le (s.drop i)
          rw [List.length_drop] at hnl
          conv => whnf
          refine ⟨⟨⟩, by dsimp only; omega, ?_⟩
          conv => whnf
          refine call0 (rsign_good (s.drop i) (by simp; omega) hne) ?_
          cases hx : (nextS (s.drop i)).2.2 with
          | true =>
            have sr2 := sr2 hx
            have hp := nextS_pos hx
            rw [hx, if_pos rfl] at he
            rw [hx, sr2] at sr1
            rw [sr2]
            dsimp only at sr1 ⊢
            generalize hN : (nextS (s.drop i)).2.1 = N at *
            generalize hK : (nextS (s.drop i)).1 = K at *
            have sr1 := sr1.symm
            rw [Bool.and_eq_true, decide_eq_true_eq] at sr1
            have hw : IntKind.i64.wrap ((i : Int) + (N : Int)) = (i + N : Nat) := by rw [wr (by omega) (by omega)]; omega
            have htx : (s.take (i + N)).drop i = (s.drop i).take N := by rw [List.drop_take, Nat.add_sub_cancel_left]
            conv => whnf
            refine branch_of (fun h2 => absurd (of_decide_eq_true h2) sr1.1) (fun h2 => ?_)
            conv => whnf
            refine ⟨⟨⟩, by dsimp only; rw [hw]; omega, ?_⟩
            conv => whnf
            refine call0 (right_good K ((s.drop i).take N) (by simp; omega)) ?_ (by rw [hw, ← htx]; rfl)
            rw [sr1.2]
            conv => whnf
            refine ⟨⟨⟩, by dsimp only; rw [hw]; omega, ?_⟩
            conv => whnf
            refine ⟨⟨⟩, by dsimp only; simp only [List.length_map, List.length_cons, List.length_nil]; omega, ?_⟩
            conv => whnf
            refine ⟨by kernel_rfl, ?_⟩
            conv => whnf
            refine ⟨N, f, acc ++ [⟨K, (s.drop i).take N, posS (s.take i)⟩], hp, by omega, by omega, by simp; omega, by rw [he]; simp, ?_⟩
            rw [hw, show toksV (acc ++ [⟨K, (s.drop i).take N, posS (s.take i)⟩]) = toksV acc ++ [Tok.c ⟨K, (s.drop i).take N, posS (s.take i)⟩] from List.map_append]
            show _ = (⟨_, [_, _, (70, .arr 0 false 4 (toksV acc ++ [[.int .i64 K, .str ((s.drop i).take N), .int .i64 (posS (s.take i)).1, .int .i64 (posS (s.take i)).2]])), _]⟩ : St)
            rw [← htx]; rfl
          | false =>
            rw [hx, if_neg (by simp)] at he
            rw [hx] at sr1
            generalize hR : refSign (s.drop i) = R at *
            have hRl := refSign_le (s.drop i)
            rw [hR, List.length_drop] at hRl
            obtain ⟨K, N⟩ := R
            dsimp only at sr1 hRl ⊢
            have hw : IntKind.i64.wrap ((i : Int) + (N : Int)) = (i + N : Nat) := by rw [wr (by omega) (by omega)]; omega
            have htx : (s.take (i + N)).drop i = (s.drop i).take N := by rw [List.drop_take, Nat.add_sub_cancel_left]
            conv => whnf
            refine branch_of (fun h2 => ?_) (fun h2 => ?_)
            · conv => whnf
              refine ⟨by kernel_rfl, ?_⟩
              conv => whnf
              refine fin0 ?_ trivial
              simp [toksR, errR, posR, he]
            · have h2 := of_decide_eq_false h2
              have hrr : refRight K ((s.drop i).take N) = false := by simpa [h2] using sr1.symm
              conv => whnf
              refine ⟨⟨⟩, by dsimp only; rw [hw]; omega, ?_⟩
              conv => whnf
              refine call0 (right_good K ((s.drop i).take N) (by simp; omega)) ?_ (by rw [hw, ← htx]; rfl)
              rw [hrr]
              conv => whnf
              refine ⟨by kernel_rfl, ?_⟩
              conv => whnf
              refine fin0 ?_ trivial
              simp [toksR, errR, posR, he]
      · rintro st ⟨n, f, acc, hn1, hn, hf, hacc, he, rfl⟩
        conv => whnf
        refine seq_of hP [0, 2, 3, 4, 5, 6, 7, 8, 9, 10, 11, 12, 16, 22, 45, 59, 74, 90, 95, 107] [100002, 100003, 100005] [0, 2, 3, 4, 5, 6, 7, 8, 10] [67, 69, 70, 71] [] (fun st => st = ⟨[(0, .str s), (2, .nil), (3, .ptr 67 0 0), (4, .int .i64 0), (5, .ptr 69 0 0), (6, .own 70 0), (7, .ptr 71 0 0), (8, .int .i64 i), (10, .int .i64 n)], [(67, .box 0 [.int .i64 0, .int .i64 0]), (69, .box 0 [.int .i64 0, .int .i64 0]), (70, .arr 0 false 4 (toksV acc)), (71, .box 0 [.int .i64 (posS (s.take (i + n))).1, .int .i64 (posS (s.take (i + n))).2])]⟩) ?_ ?_
        · conv => whnf
          refine loop_of hP [0, 2, 3, 4, 5, 6, 7, 8, 9, 10, 11, 12, 16, 22, 45, 59, 74, 90, 95, 107] [100002, 100003, 100005] [0, 2, 3, 4, 5, 6, 7, 8, 10, 12] [67, 69, 70, 71] [] (fun m st => ∃ k : Nat, m = n - k ∧ k ≤ n ∧ st = ⟨[(0, .str s), (2, .nil), (3, .ptr 67 0 0), (4, .int .i64 0), (5, .ptr 69 0 0), (6, .own 70 0), (7, .ptr 71 0 0), (8, .int .i64 i), (10, .int .i64 n), (12, .int .i64 k)], [(67, .box 0 [.int .i64 0, .int .i64 0]), (69, .box 0 [.int .i64 0, .int .i64 0]), (70, .arr 0 false 4 (toksV acc)), (71, .box 0 [.int .i64 (posS (s.take (i + k))).1, .int .i64 (posS (s.take (i + k))).2])]⟩) n ?_ ?_
          · conv => whnf
            exact ⟨0, rfl, Nat.zero_le _, rfl⟩
          · rintro m st ⟨k, rfl, hk, rfl⟩
            have hp := posS_le s (i + k) (by omega)
            conv => whnf
            refine branch_of (fun h => ?_) (fun h => ?_)
            · have h := of_decide_eq_true h
              have hk' : i + k < s.length := by omega
              have hw0 : IntKind.i64.wrap ((i : Int) + (k : Int)) = (i + k : Nat) := by rw [wr (by omega) (by omega)]; omega
              have hpos := posS_snoc s hk'
              have hw1 : IntKind.i64.wrap ((posS (s.take (i + k))).2 + 1) = (posS (s.take (i + k))).2 + 1 := wr (by omega) (by omega)
              have hw2 : IntKind.i64.wrap ((posS (s.take (i + k))).1 + 1) = (posS (s.take (i + k))).1 + 1 := wr (by omega) (by omega)
              have hw4 : IntKind.i64.wrap ((k : Int) + 1) = (k + 1 : Nat) := by rw [wr (by omega) (by omega)]; rfl
              conv => whnf
              refine ⟨s[i + k], idx hk' hw0, ?_⟩
              conv => whnf
              refine branch_of (fun h => ?_) (fun h => ?_)
              · have h := of_decide_eq_true h
                rw [if_pos (by omega)] at hpos
                conv => whnf
                refine ⟨n - (k + 1), by omega, k + 1, rfl, by omega, ?_⟩
                rw [hw2, hw4, ← Nat.add_assoc, hpos]
              · have h := of_decide_eq_false h
                rw [if_neg (by omega)] at hpos
                conv => whnf
                refine ⟨n - (k + 1), by omega, k + 1, rfl, by omega, ?_⟩
                rw [hw1, hw4, ← Nat.add_assoc, hpos]
            · have h := of_decide_eq_false h
              have : k = n := by omega
              subst this
              conv => whnf
        rintro st rfl
        conv => whnf
        have hw0 : IntKind.i64.wrap ((i : Int) + (n : Int)) = (i + n : Nat) := by rw [wr (by omega) (by omega)]; omega
        refine ⟨s.length - (i + n), by omega, i + n, f, acc, rfl, hn, hf, hacc, he, ?_⟩
        rw [hw0]
    · have h := of_decide_eq_false h
      have hd : s.drop i = [] := List.drop_eq_nil_iff.2 (by omega)
      have hg : toksGo s f (i + blanksN false (s.drop i)) = ([], none) := by
        cases f with
        | zero => rfl
        | succ f => rw [toksGo, if_neg (by omega)]
      rw [hg, List.append_nil] at he
      conv => whnf
      refine ⟨by kernel_rfl, ?_⟩
      conv => whnf
      refine fin0 ?_ trivial
      simp [toksR, errR, posR, he]
end Go.PV
namespace Go.PV
open Go Go.Proofs
set_option maxRecDepth 100000
theorem plainB_in (c : UInt8) : plainB c = decide ((32 : Int) ≤ (c.toNat : Int) ∧ (c.toNat : Int) ≤ 126) := by
  unfold plainB inB
  rw [Bool.eq_iff_iff]; simp; omega
/-- the page's right value -/
theorem refValue_good (v : Val) (hs : v.s.length ≤ 1000000) : Good Tryz.prog 136 [.agg v.c] [] [.bool (checkS v)] [] := by
  obtain ⟨k, n, s⟩ := v
  dsimp only at hs
  refine good_of hP Tryz.func136 (by kernel_rfl) (lv := [0, 1, 2, 3, 5, 6, 17, 27, 37, 42, 51]) (js := []) ⟨rfl, rfl, rfl, rfl, rfl, rfl, _, rfl, ?_⟩
  unfold checkS
  dsimp only
  conv => whnf
  refine branch_of (fun h => ?_) (fun h => ?_)
  · have h : k = 1 := of_decide_eq_true h
    rw [if_pos h]
    conv => whnf
    refine call0 (in_good n (-4611686018427387904) 4611686018427387904) ?_
    unfold inR
    refine branch_of (fun h2 => ?_) (fun h2 => ?_)
    · rw [h2]
      conv => whnf
      have e : decide ((s.length : Int) = 0) = decide (s = []) := by
        rw [decide_eq_decide]; constructor
        · intro e; exact List.eq_nil_of_length_eq_zero (by omega)
        · intro e; subst e; rfl
      exact fin0 (by rw [Bool.true_and, ← e]) trivial
    · rw [h2]
      conv => whnf
      exact fin0 rfl trivial
  have h : ¬ k = 1 := of_decide_eq_false h
  rw [if_neg h]
  conv => whnf
  refine branch_of (fun h3 => ?_) (fun h3 => ?_)
  · have h3 : k = 2 := of_decide_eq_true h3
    rw [if_pos h3]
    conv => whnf
    refine branch_of (fun h4 => ?_) (fun h4 => ?_)
    · rw [h4]
      conv => whnf
      refine call0 (word_good s false hs) ?_
      rw [symbol_word]
      conv => whnf
      exact fin0 rfl trivial
    · rw [h4]
      conv => whnf
      exact fin0 rfl trivial
  have h3 : ¬ k = 2 := of_decide_eq_false h3
  rw [if_neg h3]
  conv => whnf
  refine branch_of (fun h5 => ?_) (fun h5 => ?_)
  · have h5 : k = 3 := of_decide_eq_true h5
    rw [if_pos h5]
    conv => whnf
    refine branch_of (fun h6 => ?_) (fun h6 => ?_)
    · rw [Bool.not_eq_true'] at h6
      rw [h6]
      conv => whnf
      exact fin0 rfl trivial
    rw [Bool.not_eq_false'] at h6
    rw [h6, Bool.true_and]
    conv => whnf
    refine branch_of (fun h7 => ?_) (fun h7 => ?_)
    · have h7 := of_decide_eq_true h7
      dsimp only at h7
      conv => whnf
      exact fin0 (by unfold plainS; rw [decide_eq_false (by omega), Bool.and_false]) trivial
    have h7 := of_decide_eq_false h7
    dsimp only at h7
    have e : plainS s = s.all plainB := by unfold plainS; rw [decide_eq_true (by omega), Bool.and_true]
    rw [e]
    conv => whnf
    refine loop_of hP [0, 1, 2, 3, 5, 6, 17, 27, 37, 42, 51] [] [1, 2, 3] [65] [] (fun m st => ∃ i : Nat, m = s.length - i ∧ i ≤ s.length ∧ s.all plainB = (s.drop i).all plainB ∧ st = ⟨[(1, .ptr 65 0 0), (2, .bool false), (3, .int .i64 i)], [(65, .box 0 (Val.c ⟨k, n, s⟩))]⟩) s.length ?_ ?_
    · conv => whnf
      exact ⟨0, rfl, Nat.zero_le _, rfl, rfl⟩
    · rintro m st ⟨i, rfl, hi, he, rfl⟩
      conv => whnf
      refine branch_of (fun h8 => ?_) (fun h8 => ?_)
      · have h8 := of_decide_eq_true h8
        have hi' : i < s.length := by dsimp only at h8; omega
        conv => whnf
        refine ⟨s[i], idx hi' rfl, ?_⟩
        conv => whnf
        have hw : IntKind.i64.wrap (s[i].toNat : Int) = s[i].toNat := by have := s[i].toNat_lt; rw [wr (by omega) (by omega)]
        rw [hw]
        refine call0 (in_good s[i].toNat 32 126) ?_
        rw [← plainB_in]
        rw [all_drop hi'] at he
        cases hp : plainB s[i] with
        | false =>
          rw [hp, Bool.false_and] at he
          rw [he]
          conv => whnf
          exact fin0 rfl trivial
        | true =>
          rw [hp, Bool.true_and] at he
          conv => whnf
          refine ⟨s.length - (i + 1), by omega, i + 1, rfl, by omega, he, ?_⟩
          rw [wr (by omega) (by omega)]; rfl
      · have h8 := of_decide_eq_false h8
        have h9 : s.drop i = [] := List.drop_eq_nil_iff.2 (by dsimp only at h8; omega)
        rw [h9] at he
        rw [he]
        conv => whnf
        exact fin0 rfl trivial
  · have h5 : ¬ k = 3 := of_decide_eq_false h5
    rw [if_neg h5]
    conv => whnf
    exact fin0 rfl trivial
/-- the page's right expression -/
theorem refExpr_good (l : List Stp) (hb : opsB l) : Good Tryz.prog 118 [.sl 5 (stpV l)] [] [.bool (exprOk l)] [] := by
  obtain ⟨hl, ho⟩ := hb
  refine good_of hP Tryz.func118 (by kernel_rfl) (lv := [0, 2, 3, 4, 5, 9, 13, 21, 22, 33, 36, 47, 50, 67]) (js := [50]) ⟨rfl, rfl, rfl, rfl, rfl, rfl, _, rfl, ?_⟩
  conv => whnf
  refine call0 (in_good (stpV l).length 1 15) ?_
  rw [List.length_map]
  cases hle : decide ((1 : Int) ≤ (l.length : Int) ∧ (l.length : Int) ≤ 15) with
  | false =>
    have h := of_decide_eq_false hle
    have e : exprOk l = false := by unfold exprOk; rw [decide_eq_false (by omega), Bool.false_and]
    rw [e]
    conv => whnf
    exact fin0 rfl trivial
  | true =>
  have h := of_decide_eq_true hle
  have e : exprOk l = decide (depGo 0 l = some 1) := by
    have : decide (1 ≤ l.length ∧ l.length ≤ 15) = true := by simp; omega
    rw [exprOk, this, Bool.true_and]
  rw [e]
  conv => whnf
  refine loop_of hP [0, 2, 3, 4, 5, 9, 13, 21, 22, 33, 36, 47, 50, 67] [50] [0, 2, 3, 4] [] [] (fun n st => ∃ k d : Nat, n = l.length - k ∧ k ≤ l.length ∧ d ≤ k ∧ depGo 0 l = depGo d (l.drop k) ∧ st = ⟨[(0, .sl 5 (stpV l)), (2, .bool false), (3, .int .i64 d), (4, .int .i64 k)], []⟩) l.length ?_ ?_
  · conv => whnf
    exact ⟨0, 0, rfl, Nat.zero_le _, Nat.le_refl _, rfl, rfl⟩
  · rintro n st ⟨k, d, rfl, hk, hd, he, rfl⟩
    conv => whnf
    refine branch_of (fun h3 => ?_) (fun h3 => ?_)
    · have h3 := of_decide_eq_true h3
      rw [List.length_map] at h3
      have hk' : k < l.length := by omega
      rw [List.drop_eq_getElem_cons hk', depGo] at he
      conv => whnf
      refine ⟨Stp.c l[k], idxM hk' rfl, ?_⟩
      conv => whnf
      obtain ⟨b1, b2⟩ := ho _ (List.getElem_mem hk')
      generalize l[k] = o at *
      obtain ⟨ok, ov, ox⟩ := o
      dsimp only at b1 b2 he
      unfold stpOk at he
      dsimp only at he
      refine branch_of (fun g1 => ?_) (fun g1 => ?_)
      · have g1 : ok = 1 := of_decide_eq_true g1
        rw [if_pos g1] at he
        conv => whnf
        refine call0 (word_good ov true b1) ?_
        have ev : varS ov = refWordS true ov := rfl
        rw [← ev]
        cases hv : varS ov with
        | false =>
          rw [hv, Bool.false_and, if_neg (by simp)] at he
          rw [he]
          conv => whnf
          exact fin0 rfl trivial
        | true =>
          rw [hv, Bool.true_and] at he
          conv => whnf
          refine ⟨_, (eqVal ox zeroV).2, ?_⟩
          conv => whnf
          by_cases hz : ox = zeroV
          · rw [decide_eq_true hz] at he ⊢
            rw [if_pos rfl, if_pos (by omega)] at he
            conv => whnf
            refine ⟨l.length - (k + 1), by omega, k + 1, d + 1, rfl, by omega, by omega, he, ?_⟩
            rw [wr (by omega) (by omega), wr (by omega) (by omega)]; rfl
          · rw [decide_eq_false hz] at he ⊢
            rw [if_neg (by simp)] at he
            rw [he]
            conv => whnf
            exact fin0 rfl trivial
      have g1 : ¬ ok = 1 := of_decide_eq_false g1
      rw [if_neg g1] at he
      conv => whnf
      refine branch_of (fun g2 => ?_) (fun g2 => ?_)
      · have g2 : ok = 2 := of_decide_eq_true g2
        rw [if_pos g2] at he
        conv => whnf
        refine branch_of (fun g3 => ?_) (fun g3 => ?_)
        · have g3 := of_decide_eq_true g3
          have : ov ≠ [] := by rintro rfl; exact absurd g3 (show ¬ (0 : Int) < 0 by omega)
          rw [decide_eq_false this, Bool.false_and, if_neg (by simp)] at he
          rw [he]
          conv => whnf
          exact fin0 rfl trivial
        have g3 := of_decide_eq_false g3
        have hov : ov = [] := List.eq_nil_of_length_eq_zero (by dsimp only at g3; omega)
        rw [decide_eq_true hov, Bool.true_and] at he
        conv => whnf
        refine call0 (refValue_good ox b2) ?_
        cases hc : checkS ox with
        | false =>
          rw [hc, if_neg (by simp)] at he
          rw [he]
          conv => whnf
          exact fin0 rfl trivial
        | true =>
          rw [hc, if_pos rfl, if_pos (by omega)] at he
          conv => whnf
          refine ⟨l.length - (k + 1), by omega, k + 1, d + 1, rfl, by omega, by omega, he, ?_⟩
          rw [wr (by omega) (by omega), wr (by omega) (by omega)]; rfl
      have g2 : ¬ ok = 2 := of_decide_eq_false g2
      rw [if_neg g2] at he
      conv => whnf
      refine seq_of hP [0, 2, 3, 4, 5, 9, 13, 21, 22, 33, 36, 47, 50, 67] [50] [0, 2, 3, 4, 5, 50] [69] [] (fun st => st = ⟨[(0, .sl 5 (stpV l)), (2, .bool false), (3, .int .i64 d), (4, .int .i64 k), (5, .ptr 69 0 0), (50, .bool (decide (ok = 3 ∨ ok = 4 ∨ ok = 5)))], [(69, .box 0 (Stp.c ⟨ok, ov, ox⟩))]⟩) ?_ ?_
      · conv => whnf
        refine branch_of (fun g4 => ?_) (fun g4 => ?_)
        · have h4 : ok = 3 := of_decide_eq_true g4
          conv => whnf
          have e : decide (ok = 3 ∨ ok = 4 ∨ ok = 5) = true := by rw [decide_eq_true_iff]; omega
          rw [e, g4]
        have h4 : ¬ ok = 3 := of_decide_eq_false g4
        conv => whnf
        refine branch_of (fun g5 => ?_) (fun g5 => ?_)
        · have h5 : ok = 4 := of_decide_eq_true g5
          conv => whnf
          have e : decide (ok = 3 ∨ ok = 4 ∨ ok = 5) = true := by rw [decide_eq_true_iff]; omega
          rw [e, g5]
        have h5 : ¬ ok = 4 := of_decide_eq_false g5
        conv => whnf
        have e : decide (ok = 3 ∨ ok = 4 ∨ ok = 5) = decide (ok = 5) := by rw [decide_eq_decide]; omega
        rw [e]
      rintro st rfl
      by_cases h6 : ok = 3 ∨ ok = 4 ∨ ok = 5
      · rw [if_pos h6] at he
        rw [decide_eq_true h6]
        conv => whnf
        refine branch_of (fun g3 => ?_) (fun g3 => ?_)
        · have g3 := of_decide_eq_true g3
          have : ov ≠ [] := by rintro rfl; exact absurd g3 (show ¬ (0 : Int) < 0 by omega)
          rw [decide_eq_false this, Bool.false_and, if_neg (by simp)] at he
          rw [he]
          conv => whnf
          exact fin0 rfl trivial
        have g3 := of_decide_eq_false g3
        have hov : ov = [] := List.eq_nil_of_length_eq_zero (by dsimp only at g3; omega)
        rw [decide_eq_true hov, Bool.true_and] at he
        conv => whnf
        refine ⟨_, (eqVal ox zeroV).2, ?_⟩
        conv => whnf
        by_cases hz : ox = zeroV
        · rw [decide_eq_true hz] at he ⊢
          rw [if_pos rfl, if_neg (by omega)] at he
          conv => whnf
          refine branch_of (fun g6 => ?_) (fun g6 => ?_)
          · have g6 := of_decide_eq_true g6
            rw [if_pos (by omega)] at he
            rw [he]
            conv => whnf
            exact fin0 rfl trivial
          · have g6 := of_decide_eq_false g6
            rw [if_neg (by omega)] at he
            conv => whnf
            refine ⟨l.length - (k + 1), by omega, k + 1, d - 1, rfl, by omega, by omega, he, ?_⟩
            rw [wr (by omega) (by omega), wr (by omega) (by omega)]
            have e1 : (d : Int) - 1 = (d - 1 : Nat) := by omega
            rw [e1]; rfl
        · rw [decide_eq_false hz] at he ⊢
          rw [if_neg (by simp)] at he
          rw [he]
          conv => whnf
          exact fin0 rfl trivial
      · rw [if_neg h6, if_neg (by simp)] at he
        rw [decide_eq_false h6, he]
        conv => whnf
        exact fin0 rfl trivial
    · have h3 := of_decide_eq_false h3
      rw [List.length_map] at h3
      have hd2 : l.drop k = [] := List.drop_eq_nil_iff.2 (by omega)
      rw [hd2, depGo] at he
      rw [he]
      conv => whnf
      exact fin0 (by simp; omega) trivial
end Go.PV
namespace Go.PV
open Go Go.Proofs
set_option maxRecDepth 100000
theorem in9_good (a b c : Int) : Good Tryz.prog 77 [.int .i64 a, .int .i64 b, .int .i64 c] [] [.bool (decide (b ≤ a ∧ a ≤ c))] [] := by
  refine good_of hP Tryz.func77 (by kernel_rfl) (lv := [0, 1, 2, 6]) (js := []) ⟨rfl, rfl, rfl, rfl, rfl, rfl, _, rfl, ?_⟩
  conv => whnf
  refine branch_of (fun h => ?_) (fun h => ?_)
  · have h := of_decide_eq_true h
    conv => whnf
    exact fin0 (by rw [show decide (b ≤ a ∧ a ≤ c) = decide (a ≤ c) from by rw [decide_eq_decide]; omega]) trivial
  · have h := of_decide_eq_false h
    conv => whnf
    exact fin0 (by rw [decide_eq_false (by omega)]) trivial
theorem words_good : Good Tryz.prog 147 [] [] [.sl 1 (strV wordsL)] [] := by
  refine good_of hP Tryz.func147 (by kernel_rfl) (lv := [0]) (js := []) ⟨rfl, rfl, rfl, rfl, rfl, rfl, _, rfl, ?_⟩
  conv => whnf
  exact fin0 rfl trivial
theorem refName_good (s : Bs) (hs : s.length ≤ 1000000) : Good Tryz.prog 85 [.str s] [] [.bool (nameS s)] [] := by
  refine good_of hP Tryz.func85 (by kernel_rfl) (lv := [0, 2, 3, 4, 7, 12, 20]) (js := []) ⟨rfl, rfl, rfl, rfl, rfl, rfl, _, rfl, ?_⟩
  unfold nameS
  conv => whnf
  refine call0 (word_good s false hs) ?_
  cases hw : refWordS false s with
  | false =>
    conv => whnf
    exact fin0 rfl trivial
  | true =>
  rw [Bool.true_and]
  conv => whnf
  refine call0 (words_good) ?_
  conv => whnf
  have hL : wordsL.length = 11 := rfl
  generalize wordsL = L at *
  refine loop_of hP [0, 2, 3, 4, 7, 12, 20] [] [0, 2, 3, 4] [] [] (fun n st => ∃ k : Nat, n = 11 - k ∧ k ≤ 11 ∧ (∀ j (h : j < L.length), j < k → L[j] ≠ s) ∧ st = ⟨[(0, .str s), (2, .bool false), (3, .sl 1 (strV L)), (4, .int .i64 k)], []⟩) 11 ?_ ?_
  · conv => whnf
    exact ⟨0, rfl, by omega, fun j _ h => by omega, rfl⟩
  · rintro n st ⟨k, rfl, hk, hn, rfl⟩
    conv => whnf
    refine branch_of (fun h => ?_) (fun h => ?_)
    · have h := of_decide_eq_true h
      rw [List.length_map] at h
      have hk' : k < L.length := by omega
      conv => whnf
      refine ⟨[.str L[k]], idxM hk' rfl, ?_⟩
      conv => whnf
      refine branch_of (fun h2 => ?_) (fun h2 => ?_)
      · have h2 := of_decide_eq_true h2
        have : decide (s ∈ L) = true := by rw [decide_eq_true_iff, ← h2]; exact List.getElem_mem hk'
        rw [this]
        conv => whnf
        exact fin0 rfl trivial
      · have h2 := of_decide_eq_false h2
        conv => whnf
        refine ⟨11 - (k + 1), by omega, k + 1, rfl, by omega, fun j hj hjk => ?_, ?_⟩
        · by_cases e : j = k
          · subst e; exact h2
          · exact hn j hj (by omega)
        · rw [wr (by omega) (by omega)]; rfl
    · have h := of_decide_eq_false h
      rw [List.length_map] at h
      have : decide (s ∈ L) = false := by
        rw [decide_eq_false_iff_not]; intro hm
        obtain ⟨j, hj, e⟩ := List.getElem_of_mem hm
        exact hn j hj (by omega) e
      rw [this]
      conv => whnf
      exact fin0 rfl trivial
theorem refTerm_good (t : Trm) (h1 : t.v.length ≤ 1000000) (h2 : t.x.s.length ≤ 1000000) : Good Tryz.prog 86 [.agg t.c] [] [.bool (termOk t)] [] := by
  obtain ⟨v, x⟩ := t
  dsimp only at h1 h2
  refine good_of hP Tryz.func86 (by kernel_rfl) (lv := [0, 1, 2, 6]) (js := []) ⟨rfl, rfl, rfl, rfl, rfl, rfl, _, rfl, ?_⟩
  unfold termOk
  dsimp only
  conv => whnf
  refine branch_of (fun h => ?_) (fun h => ?_)
  · have h := of_decide_eq_true h
    have hv : v ≠ [] := by rintro rfl; exact absurd h (show ¬ (0 : Int) < 0 by omega)
    rw [if_neg hv]
    conv => whnf
    refine call0 (word_good v true h1) ?_
    have ev : varS v = refWordS true v := rfl
    rw [← ev]
    cases varS v with
    | false =>
      conv => whnf
      exact fin0 rfl trivial
    | true =>
      conv => whnf
      refine ⟨_, (eqVal x zeroV).1, ?_⟩
      conv => whnf
      exact fin0 rfl trivial
  · have h := of_decide_eq_false h
    have hv : v = [] := List.eq_nil_of_length_eq_zero (by dsimp only at h; omega)
    rw [if_pos hv]
    conv => whnf
    refine call0 (refValue_good x h2) ?_
    conv => whnf
    exact fin0 rfl trivial
/-- what is played of atoms -/
def atmL (a : Atm) : Prop := a.n.length ≤ 1000000 ∧ ∀ t ∈ a.a, t.v.length ≤ 1000000 ∧ t.x.s.length ≤ 1000000
theorem refAtom_good (a : Atm) (hb : atmL a) : Good Tryz.prog 34 [.agg a.c] [] [.bool (atomOk a)] [] := by
  obtain ⟨n, l⟩ := a
  obtain ⟨h1, h2⟩ := hb
  dsimp only at h1 h2
  refine good_of hP Tryz.func34 (by kernel_rfl) (lv := [0, 1, 2, 3, 13, 18, 27]) (js := []) ⟨rfl, rfl, rfl, rfl, rfl, rfl, _, rfl, ?_⟩
  unfold atomOk
  dsimp only
  conv => whnf
  refine call0 (refName_good n h1) ?_
  cases hn : nameS n with
  | false =>
    conv => whnf
    exact fin0 rfl trivial
  | true =>
  rw [Bool.true_and]
  conv => whnf
  refine branch_of (fun h => ?_) (fun h => ?_)
  · have h := of_decide_eq_true h
    rw [List.length_map] at h
    dsimp only at h
    have e : decide (l.length ≤ 5) = false := decide_eq_false (by omega)
    rw [e, Bool.false_and]
    conv => whnf
    exact fin0 rfl trivial
  have h := of_decide_eq_false h
  rw [List.length_map] at h
  dsimp only at h
  have e : decide (l.length ≤ 5) = true := decide_eq_true (by omega)
  rw [e, Bool.true_and]
  conv => whnf
  refine loop_of hP [0, 1, 2, 3, 13, 18, 27] [] [1, 2, 3] [65] [] (fun m st => ∃ k : Nat, m = l.length - k ∧ k ≤ l.length ∧ l.all termOk = (l.drop k).all termOk ∧ st = ⟨[(1, .ptr 65 0 0), (2, .bool false), (3, .int .i64 k)], [(65, .box 0 (Atm.c ⟨n, l⟩))]⟩) l.length ?_ ?_
  · conv => whnf
    exact ⟨0, rfl, Nat.zero_le _, rfl, rfl⟩
  · rintro m st ⟨k, rfl, hk, he, rfl⟩
    conv => whnf
    refine branch_of (fun g => ?_) (fun g => ?_)
    · have g := of_decide_eq_true g
      rw [List.length_map] at g
      have hk' : k < l.length := by dsimp only at g; omega
      rw [List.drop_eq_getElem_cons hk', List.all_cons] at he
      conv => whnf
      refine ⟨Trm.c l[k], idxM hk' rfl, ?_⟩
      conv => whnf
      refine call0 (refTerm_good l[k] (h2 _ (List.getElem_mem hk')).1 (h2 _ (List.getElem_mem hk')).2) ?_
      cases ht : termOk l[k] with
      | false =>
        rw [ht, Bool.false_and] at he
        rw [he]
        conv => whnf
        exact fin0 rfl trivial
      | true =>
        rw [ht, Bool.true_and] at he
        conv => whnf
        refine ⟨l.length - (k + 1), by omega, k + 1, rfl, by omega, he, ?_⟩
        rw [wr (by omega) (by omega)]; rfl
    · have g := of_decide_eq_false g
      rw [List.length_map] at g
      have hd : l.drop k = [] := List.drop_eq_nil_iff.2 (by dsimp only at g; omega)
      rw [hd] at he
      rw [he]
      conv => whnf
      exact fin0 rfl trivial
theorem refFact_good (f : Fct) (h1 : f.n.length ≤ 1000000) (h2 : ∀ v ∈ f.a, v.s.length ≤ 1000000) : Good Tryz.prog 74 [.agg f.c] [] [.bool (factOk f)] [] := by
  obtain ⟨n, l⟩ := f
  dsimp only at h1 h2
  refine good_of hP Tryz.func74 (by kernel_rfl) (lv := [0, 1, 2, 3, 13, 18, 27]) (js := []) ⟨rfl, rfl, rfl, rfl, rfl, rfl, _, rfl, ?_⟩
  unfold factOk
  dsimp only
  conv => whnf
  refine call0 (refName_good n h1) ?_
  cases hn : nameS n with
  | false =>
    conv => whnf
    exact fin0 rfl trivial
  | true =>
  rw [Bool.true_and]
  conv => whnf
  refine branch_of (fun h => ?_) (fun h => ?_)
  · have h := of_decide_eq_true h
    rw [List.length_map] at h
    dsimp only at h
    have e : decide (l.length ≤ 5) = false := decide_eq_false (by omega)
    rw [e, Bool.false_and]
    conv => whnf
    exact fin0 rfl trivial
  have h := of_decide_eq_false h
  rw [List.length_map] at h
  dsimp only at h
  have e : decide (l.length ≤ 5) = true := decide_eq_true (by omega)
  rw [e, Bool.true_and]
  conv => whnf
  refine loop_of hP [0, 1, 2, 3, 13, 18, 27] [] [1, 2, 3] [65] [] (fun m st => ∃ k : Nat, m = l.length - k ∧ k ≤ l.length ∧ l.all checkS = (l.drop k).all checkS ∧ st = ⟨[(1, .ptr 65 0 0), (2, .bool false), (3, .int .i64 k)], [(65, .box 0 (Fct.c ⟨n, l⟩))]⟩) l.length ?_ ?_
  · conv => whnf
    exact ⟨0, rfl, Nat.zero_le _, rfl, rfl⟩
  · rintro m st ⟨k, rfl, hk, he, rfl⟩
    conv => whnf
    refine branch_of (fun g => ?_) (fun g => ?_)
    · have g := of_decide_eq_true g
      rw [List.length_map] at g
      have hk' : k < l.length := by dsimp only at g; omega
      rw [List.drop_eq_getElem_cons hk', List.all_cons] at he
      conv => whnf
      refine ⟨Val.c l[k], idxM hk' rfl, ?_⟩
      conv => whnf
      refine call0 (refValue_good l[k] (h2 _ (List.getElem_mem hk'))) ?_
      cases ht : checkS l[k] with
      | false =>
        rw [ht, Bool.false_and] at he
        rw [he]
        conv => whnf
        exact fin0 rfl trivial
      | true =>
        rw [ht, Bool.true_and] at he
        conv => whnf
        refine ⟨l.length - (k + 1), by omega, k + 1, rfl, by omega, he, ?_⟩
        rw [wr (by omega) (by omega)]; rfl
    · have g := of_decide_eq_false g
      rw [List.length_map] at g
      have hd : l.drop k = [] := List.drop_eq_nil_iff.2 (by dsimp only at g; omega)
      rw [hd] at he
      rw [he]
      conv => whnf
      exact fin0 rfl trivial
end Go.PV
namespace Go.PV
open Go Go.Proofs
set_option maxRecDepth 100000
theorem qguard_good (c : Cnd) (hb : cndB c) : Good Tryz.prog 184 [.agg c.c] [] [.bool (guardOk c)] [] := by
  obtain ⟨k, ⟨n, a⟩, h, l, r⟩ := c
  obtain ⟨b1, b2, b3, b4, b5, b6, b7⟩ := hb
  dsimp only at b1 b2 b3 b4 b5 b6 b7
  refine good_of hP Tryz.func184 (by kernel_rfl) (lv := [0, 1, 2]) (js := []) ⟨rfl, rfl, rfl, rfl, rfl, rfl, _, rfl, ?_⟩
  unfold guardOk
  dsimp only
  have en : (decide (n = []) && (decide (a = []) && (decide (1 ≤ h ∧ h ≤ 4) && (exprOk l && exprOk r)))) = (decide (IntKind.i64.wrap (((n.length : Nat) : Int) + ((trmV a).length : Nat)) = 0) && (decide (1 ≤ h ∧ h ≤ 4) && (exprOk l && exprOk r))) := by
    rw [← Bool.and_assoc]
    congr 1
    rw [List.length_map, wr (by omega) (by omega), Bool.eq_iff_iff]
    simp only [Bool.and_eq_true, decide_eq_true_eq]
    constructor
    · rintro ⟨rfl, rfl⟩; rfl
    · intro e
      exact ⟨List.eq_nil_of_length_eq_zero (by omega), List.eq_nil_of_length_eq_zero (by omega)⟩
  rw [en]
  conv => whnf
  cases decide (k = 3) with
  | false =>
    conv => whnf
    exact fin0 rfl trivial
  | true =>
  rw [Bool.true_and]
  conv => whnf
  cases decide (IntKind.i64.wrap (((n.length : Nat) : Int) + ((trmV a).length : Nat)) = 0) with
  | false =>
    conv => whnf
    exact fin0 rfl trivial
  | true =>
  rw [Bool.true_and]
  conv => whnf
  refine call0 (in_good h 1 4) ?_
  cases decide (1 ≤ h ∧ h ≤ 4) with
  | false =>
    conv => whnf
    exact fin0 rfl trivial
  | true =>
  rw [Bool.true_and]
  conv => whnf
  refine call0 (refExpr_good l ⟨b4, b5⟩) ?_
  cases exprOk l with
  | false =>
    conv => whnf
    exact fin0 rfl trivial
  | true =>
  rw [Bool.true_and]
  conv => whnf
  refine call0 (refExpr_good r ⟨b6, b7⟩) ?_
  conv => whnf
  exact fin0 rfl trivial
theorem qcond_good (c : Cnd) (hb : cndB c) : Good Tryz.prog 117 [.agg c.c] [] [.bool (condOk c)] [] := by
  have hg := qguard_good c hb
  have hcg : ¬ (c.k = 1 ∨ c.k = 2) → condOk c = guardOk c := fun h => by
    unfold condOk
    by_cases hk : c.k = 3
    · rw [if_pos hk]
    · rw [if_neg hk]
      unfold guardOk
      rw [show decide (c.k = 3) = false from decide_eq_false hk, show decide (c.k = 1 ∨ c.k = 2) = false from decide_eq_false h]; rfl
  have hca : (c.k = 1 ∨ c.k = 2) → condOk c = (atomOk c.a && (decide (c.h = 0) && decide (IntKind.i64.wrap (((stpV c.l).length : Int) + ((stpV c.r).length : Nat)) = 0))) := fun h => by
    unfold condOk
    rw [if_neg (by omega), show decide (c.k = 1 ∨ c.k = 2) = true from decide_eq_true h, Bool.true_and, Bool.and_comm]
    congr 2
    obtain ⟨b1, b2, b3, b4, b5, b6, b7⟩ := hb
    rw [List.length_map, List.length_map, wr (by omega) (by omega), Bool.eq_iff_iff]
    simp only [Bool.and_eq_true, decide_eq_true_eq]
    constructor
    · rintro ⟨e1, e2⟩; rw [e1, e2]; rfl
    · intro e
      exact ⟨List.eq_nil_of_length_eq_zero (by omega), List.eq_nil_of_length_eq_zero (by omega)⟩
  obtain ⟨b1, b2, b3, b4, b5, b6, b7⟩ := hb
  have ha := refAtom_good c.a ⟨b1, b3⟩
  obtain ⟨k, a, h, l, r⟩ := c
  refine good_of hP Tryz.func117 (by kernel_rfl) (lv := [0, 1, 2, 4, 5]) (js := [5]) ⟨rfl, rfl, rfl, rfl, rfl, rfl, _, rfl, ?_⟩
  dsimp only at b1 b2 b3 b4 b5 b6 b7 hcg hca ha
  conv => whnf
  refine seq_of hP [0, 1, 2, 4, 5] [5] [1, 2, 5] [65] [] (fun st => st = ⟨[(1, .ptr 65 0 0), (2, .bool false), (5, .bool (decide (k = 1 ∨ k = 2)))], [(65, .box 0 (Cnd.c ⟨k, a, h, l, r⟩))]⟩) ?_ ?_
  · conv => whnf
    refine branch_of (fun g1 => ?_) (fun g1 => ?_)
    · have h1 : k = 1 := of_decide_eq_true g1
      conv => whnf
      have e : decide (k = 1 ∨ k = 2) = true := by rw [decide_eq_true_iff]; omega
      rw [e, g1]
    · have h1 : ¬ k = 1 := of_decide_eq_false g1
      conv => whnf
      have e : decide (k = 1 ∨ k = 2) = decide (k = 2) := by rw [decide_eq_decide]; omega
      rw [e]
  rintro st rfl
  by_cases hk : k = 1 ∨ k = 2
  · rw [decide_eq_true hk, hca hk]
    conv => whnf
    refine call0 (ha) ?_
    cases atomOk a with
    | false =>
      conv => whnf
      exact fin0 rfl trivial
    | true =>
    rw [Bool.true_and]
    conv => whnf
    cases decide (h = 0) with
    | false =>
      conv => whnf
      exact fin0 rfl trivial
    | true =>
      conv => whnf
      exact fin0 rfl trivial
  · rw [decide_eq_false hk, hcg hk]
    conv => whnf
    refine call0 (hg) ?_
    conv => whnf
    exact fin0 rfl trivial
theorem qhas_good (l : List Cnd) (hl : l.length ≤ 1000000) : Good Tryz.prog 119 [.sl 6 (cndV l)] [] [.int .i64 (hasN l)] [] := by
  refine good_of hP Tryz.func119 (by kernel_rfl) (lv := [0, 2, 3, 4, 8, 16]) (js := []) ⟨rfl, rfl, rfl, rfl, rfl, rfl, _, rfl, ?_⟩
  conv => whnf
  refine loop_of hP [0, 2, 3, 4, 8, 16] [] [0, 2, 3, 4] [] [] (fun m st => ∃ k : Nat, m = l.length - k ∧ k ≤ l.length ∧ st = ⟨[(0, .sl 6 (cndV l)), (2, .int .i64 0), (3, .int .i64 (hasN (l.take k))), (4, .int .i64 k)], []⟩) l.length ?_ ?_
  · conv => whnf
    exact ⟨0, rfl, Nat.zero_le _, rfl⟩
  · rintro m st ⟨k, rfl, hk, rfl⟩
    conv => whnf
    refine branch_of (fun h => ?_) (fun h => ?_)
    · have h := of_decide_eq_true h
      rw [List.length_map] at h
      have hk' : k < l.length := by omega
      have hht := hasN_take l hk'
      have hhl := hasN_le (l.take k)
      rw [List.length_take] at hhl
      conv => whnf
      refine ⟨Cnd.c l[k], idxM hk' rfl, ?_⟩
      conv => whnf
      refine branch_of (fun g => ?_) (fun g => ?_)
      · have g : l[k].k = 1 := of_decide_eq_true g
        rw [if_pos g] at hht
        conv => whnf
        refine ⟨l.length - (k + 1), by omega, k + 1, rfl, by omega, ?_⟩
        rw [hht, wr (by omega) (by omega), wr (by omega) (by omega)]; rfl
      · have g : ¬ l[k].k = 1 := of_decide_eq_false g
        rw [if_neg g, Nat.add_zero] at hht
        conv => whnf
        refine ⟨l.length - (k + 1), by omega, k + 1, rfl, by omega, ?_⟩
        rw [hht, wr (by omega) (by omega)]; rfl
    · have h := of_decide_eq_false h
      rw [List.length_map] at h
      rw [List.take_of_length_le (by omega)]
      conv => whnf
      exact fin0 rfl trivial
theorem qrule_good (r : Rul) (hb : rulB r) : Good Tryz.prog 58 [.agg r.v] [] [.bool (ruleOk r)] [] := by
  obtain ⟨n, p, c, a⟩ := r
  obtain ⟨b1, b2, b3, b4, b5⟩ := hb
  dsimp only at b1 b2 b3 b4 b5
  refine good_of hP Tryz.func58 (by kernel_rfl) (lv := [0, 1, 2, 3, 4, 5, 6, 38, 43, 52, 57, 66, 67, 83, 88, 97, 98, 117]) (js := []) ⟨rfl, rfl, rfl, rfl, rfl, rfl, _, rfl, ?_⟩
  have e0 : ruleOk ⟨n, p, c, a⟩ = (nameS n && (decide (-1000 ≤ p ∧ p ≤ 1000) && (decide ((1 : Int) ≤ ((cndV c).length : Nat) ∧ (((cndV c).length : Nat) : Int) ≤ 6) && (decide (headK c = 1) && (decide ((1 : Int) ≤ ((actV a).length : Nat) ∧ (((actV a).length : Nat) : Int) ≤ 6) && (c.all condOk && a.all (actOk (hasN c)))))))) := by
    have e1 : decide ((1 : Int) ≤ ((cndV c).length : Nat) ∧ (((cndV c).length : Nat) : Int) ≤ 6) = decide (1 ≤ c.length ∧ c.length ≤ 6) := by rw [decide_eq_decide, List.length_map]; omega
    have e2 : decide ((1 : Int) ≤ ((actV a).length : Nat) ∧ (((actV a).length : Nat) : Int) ≤ 6) = decide (1 ≤ a.length ∧ a.length ≤ 6) := by rw [decide_eq_decide, List.length_map]; omega
    rw [e1, e2]
    unfold ruleOk
    simp only [Bool.and_assoc]
  rw [e0]
  conv => whnf
  refine call0 (refName_good n b1) ?_
  cases nameS n with
  | false =>
    conv => whnf
    exact fin0 rfl trivial
  | true =>
  rw [Bool.true_and]
  conv => whnf
  refine call0 (in9_good p (-1000) 1000) ?_
  cases decide (-1000 ≤ p ∧ p ≤ 1000) with
  | false =>
    conv => whnf
    exact fin0 rfl trivial
  | true =>
  rw [Bool.true_and]
  conv => whnf
  refine call0 (in9_good (cndV c).length 1 6) ?_
  cases hc6 : decide ((1 : Int) ≤ ((cndV c).length : Nat) ∧ (((cndV c).length : Nat) : Int) ≤ 6) with
  | false =>
    conv => whnf
    exact fin0 rfl trivial
  | true =>
  have hc6 := of_decide_eq_true hc6
  rw [List.length_map] at hc6
  rw [Bool.true_and]
  have h0 : 0 < c.length := by omega
  have eh : headK c = c[0].k := by cases c with
    | nil => simp at h0
    | cons x r => rfl
  rw [eh]
  conv => whnf
  refine ⟨Cnd.c c[0], idxM h0 rfl, ?_⟩
  conv => whnf
  cases hk1 : decide (c[0].k = 1) with
  | false =>
    conv => whnf
    exact fin0 rfl trivial
  | true =>
  rw [Bool.true_and]
  conv => whnf
  refine call0 (in9_good (actV a).length 1 6) ?_
  cases ha6 : decide ((1 : Int) ≤ ((actV a).length : Nat) ∧ (((actV a).length : Nat) : Int) ≤ 6) with
  | false =>
    conv => whnf
    exact fin0 rfl trivial
  | true =>
  have ha6 := of_decide_eq_true ha6
  rw [List.length_map] at ha6
  rw [Bool.true_and]
  conv => whnf
  refine loop_of hP [0, 1, 2, 3, 4, 5, 6, 38, 43, 52, 57, 66, 67, 83, 88, 97, 98, 117] [] [1, 2, 3] [65] [] (fun m st => ∃ k : Nat, m = c.length - k ∧ k ≤ c.length ∧ c.all condOk = (c.drop k).all condOk ∧ st = ⟨[(1, .ptr 65 0 0), (2, .bool false), (3, .int .i64 k)], [(65, .box 0 (Rul.v ⟨n, p, c, a⟩))]⟩) c.length ?_ ?_
  · conv => whnf
    exact ⟨0, rfl, Nat.zero_le _, rfl, rfl⟩
  · rintro m st ⟨k, rfl, hk, he, rfl⟩
    conv => whnf
    refine branch_of (fun h => ?_) (fun h => ?_)
    · have h := of_decide_eq_true h
      rw [List.length_map] at h
      have hk' : k < c.length := by dsimp only at h; omega
      rw [List.drop_eq_getElem_cons hk', List.all_cons] at he
      conv => whnf
      refine ⟨Cnd.c c[k], idxM hk' rfl, ?_⟩
      conv => whnf
      refine call0 (qcond_good c[k] (b3 _ (List.getElem_mem hk'))) ?_
      cases hc : condOk c[k] with
      | false =>
        rw [hc, Bool.false_and] at he
        rw [he]
        conv => whnf
        exact fin0 rfl trivial
      | true =>
        rw [hc, Bool.true_and] at he
        conv => whnf
        refine ⟨c.length - (k + 1), by omega, k + 1, rfl, by omega, he, ?_⟩
        rw [wr (by omega) (by omega)]; rfl
    · have h := of_decide_eq_false h
      rw [List.length_map] at h
      have hd : c.drop k = [] := List.drop_eq_nil_iff.2 (by dsimp only at h; omega)
      rw [hd] at he
      rw [he, show (([] : List Cnd).all condOk) = true from rfl, Bool.true_and]
      have hhn := hasN_le c
      conv => whnf
      refine loop_of hP [0, 1, 2, 3, 4, 5, 6, 38, 43, 52, 57, 66, 67, 83, 88, 97, 98, 117] [] [1, 2, 4] [65] [] (fun m st => ∃ k : Nat, m = a.length - k ∧ k ≤ a.length ∧ a.all (actOk (hasN c)) = (a.drop k).all (actOk (hasN c)) ∧ st = ⟨[(1, .ptr 65 0 0), (2, .bool false), (4, .int .i64 k)], [(65, .box 0 (Rul.v ⟨n, p, c, a⟩))]⟩) a.length ?_ ?_
      · conv => whnf
        exact ⟨0, rfl, Nat.zero_le _, rfl, rfl⟩
      · rintro m st ⟨j, rfl, hj, hf, rfl⟩
        conv => whnf
        refine branch_of (fun g => ?_) (fun g => ?_)
        · have g := of_decide_eq_true g
          rw [List.length_map] at g
          have hj' : j < a.length := by dsimp only at g; omega
          rw [List.drop_eq_getElem_cons hj', List.all_cons] at hf
          obtain ⟨q1, q2, q3⟩ := b5 _ (List.getElem_mem hj')
          conv => whnf
          refine ⟨Act.c a[j], idxM hj' rfl, ?_⟩
          generalize a[j] = x at *
          obtain ⟨xk, xn, xa, xw⟩ := x
          dsimp only at q1 q2 q3
          have next : ∀ (e : actOk (hasN c) ⟨xk, xn, xa, xw⟩ = true), a.all (actOk (hasN c)) = (a.drop (j + 1)).all (actOk (hasN c)) := fun e => by rw [hf, e, Bool.true_and]
          conv => whnf
          refine branch_of (fun g1 => ?_) (fun g1 => ?_)
          · have g1 : xk = 1 := of_decide_eq_true g1
            have eA : actOk (hasN c) ⟨xk, xn, xa, xw⟩ = (nameS xn && (decide (xw = 0) && (decide (xa.length ≤ 5) && xa.all exprOk))) := by unfold actOk; rw [if_pos g1]
            conv => whnf
            refine call0 (refName_good xn q1) ?_
            cases hn : nameS xn with
            | false =>
              rw [hn, Bool.false_and] at eA
              rw [eA, Bool.false_and] at hf
              rw [hf]
              conv => whnf
              exact fin0 rfl trivial
            | true =>
            rw [hn, Bool.true_and] at eA
            conv => whnf
            refine branch_of (fun g2 => ?_) (fun g2 => ?_)
            · have g2 := of_decide_eq_true g2
              rw [List.length_map] at g2
              rw [show decide (xa.length ≤ 5) = false from decide_eq_false (by dsimp only at g2; omega), Bool.false_and, Bool.and_false] at eA
              rw [eA, Bool.false_and] at hf
              rw [hf]
              conv => whnf
              exact fin0 rfl trivial
            have g2 := of_decide_eq_false g2
            rw [List.length_map] at g2
            rw [show decide (xa.length ≤ 5) = true from decide_eq_true (by dsimp only at g2; omega), Bool.true_and] at eA
            conv => whnf
            refine branch_of (fun g3 => ?_) (fun g3 => ?_)
            · have g3 : (!decide (xw = 0)) = true := g3
              rw [Bool.not_eq_true'] at g3
              rw [g3, Bool.false_and] at eA
              rw [eA, Bool.false_and] at hf
              rw [hf]
              conv => whnf
              exact fin0 rfl trivial
            have g3 : (!decide (xw = 0)) = false := g3
            rw [Bool.not_eq_false'] at g3
            rw [g3, Bool.true_and] at eA
            conv => whnf
            refine loop_of hP [0, 1, 2, 3, 4, 5, 6, 38, 43, 52, 57, 66, 67, 83, 88, 97, 98, 117] [] [1, 2, 4, 5, 6] [65, 69] [] (fun m st => ∃ i : Nat, m = xa.length - i ∧ i ≤ xa.length ∧ xa.all exprOk = (xa.drop i).all exprOk ∧ st = ⟨[(1, .ptr 65 0 0), (2, .bool false), (4, .int .i64 j), (5, .ptr 69 0 0), (6, .int .i64 i)], [(65, .box 0 (Rul.v ⟨n, p, c, a⟩)), (69, .box 0 (Act.c ⟨xk, xn, xa, xw⟩))]⟩) xa.length ?_ ?_
            · conv => whnf
              exact ⟨0, rfl, Nat.zero_le _, rfl, rfl⟩
            · rintro m st ⟨i, rfl, hi, hz, rfl⟩
              conv => whnf
              refine branch_of (fun q => ?_) (fun q => ?_)
              · have q := of_decide_eq_true q
                rw [List.length_map] at q
                have hi' : i < xa.length := by dsimp only at q; omega
                rw [List.drop_eq_getElem_cons hi', List.all_cons] at hz
                conv => whnf
                refine ⟨[.sl 5 (stpV xa[i])], idxM (f := fun x : List Stp => [V.sl 5 (stpV x)]) hi' rfl, ?_⟩
                conv => whnf
                refine call0 (refExpr_good xa[i] (q3 _ (List.getElem_mem hi'))) ?_
                cases hx : exprOk xa[i] with
                | false =>
                  rw [hx, Bool.false_and] at hz
                  rw [hz] at eA
                  rw [eA, Bool.false_and] at hf
                  rw [hf]
                  conv => whnf
                  exact fin0 rfl trivial
                | true =>
                  rw [hx, Bool.true_and] at hz
                  conv => whnf
                  refine ⟨xa.length - (i + 1), by omega, i + 1, rfl, by omega, hz, ?_⟩
                  rw [wr (by omega) (by omega)]; rfl
              · have q := of_decide_eq_false q
                rw [List.length_map] at q
                have hd : xa.drop i = [] := List.drop_eq_nil_iff.2 (by dsimp only at q; omega)
                rw [hd] at hz
                rw [hz] at eA
                conv => whnf
                refine ⟨a.length - (j + 1), by omega, j + 1, rfl, by omega, next eA, ?_⟩
                rw [wr (by omega) (by omega)]; rfl
          have g1 : ¬ xk = 1 := of_decide_eq_false g1
          conv => whnf
          refine branch_of (fun g4 => ?_) (fun g4 => ?_)
          · have g4 : xk = 2 := of_decide_eq_true g4
            have eA : actOk (hasN c) ⟨xk, xn, xa, xw⟩ = (decide (xn = []) && (decide (xa = []) && decide (0 ≤ xw ∧ xw < (hasN c : Int)))) := by unfold actOk; rw [if_neg g1, if_pos g4]
            have ew : IntKind.i64.wrap (((xn.length : Nat) : Int) + ((opsV xa).length : Nat)) = ((xn.length + xa.length : Nat) : Int) := by
              rw [List.length_map, wr (by omega) (by omega)]; omega
            conv => whnf
            refine branch_of (fun g5 => ?_) (fun g5 => ?_)
            · have g5 : 0 < IntKind.i64.wrap (((xn.length : Nat) : Int) + ((opsV xa).length : Nat)) := of_decide_eq_true g5
              rw [ew] at g5
              have e9 : (decide (xn = []) && (decide (xa = []) && decide (0 ≤ xw ∧ xw < (hasN c : Int)))) = false := by
                rw [← Bool.and_assoc]
                have : (decide (xn = []) && decide (xa = [])) = false := by
                  rw [Bool.and_eq_false_iff, decide_eq_false_iff_not, decide_eq_false_iff_not]
                  by_cases e : xn = []
                  · exact .inr (by rintro rfl; rw [e] at g5; simp at g5)
                  · exact .inl e
                rw [this]; rfl
              rw [e9] at eA
              rw [eA, Bool.false_and] at hf
              rw [hf]
              conv => whnf
              refine ⟨by kernel_rfl, ?_⟩
              conv => whnf
              exact fin0 rfl trivial
            have g5 : ¬ 0 < IntKind.i64.wrap (((xn.length : Nat) : Int) + ((opsV xa).length : Nat)) := of_decide_eq_false g5
            rw [ew] at g5
            have z1 : xn = [] := List.eq_nil_of_length_eq_zero (by omega)
            have z2 : xa = [] := List.eq_nil_of_length_eq_zero (by omega)
            rw [decide_eq_true z1, decide_eq_true z2, Bool.true_and, Bool.true_and] at eA
            have eh : decide (0 ≤ xw ∧ xw < (hasN c : Int)) = decide (0 ≤ xw ∧ xw ≤ IntKind.i64.wrap ((hasN c : Int) - 1)) := by
              rw [decide_eq_decide, wr (by omega) (by omega)]; omega
            rw [eh] at eA
            conv => whnf
            refine call0 (qhas_good c b2) ?_
            conv => whnf
            refine call0 (in9_good xw 0 (IntKind.i64.wrap ((hasN c : Int) - 1))) ?_
            cases hq : decide (0 ≤ xw ∧ xw ≤ IntKind.i64.wrap ((hasN c : Int) - 1)) with
            | false =>
              rw [hq] at eA
              rw [eA, Bool.false_and] at hf
              rw [hf]
              conv => whnf
              refine ⟨by kernel_rfl, ?_⟩
              conv => whnf
              exact fin0 rfl trivial
            | true =>
              rw [hq] at eA
              conv => whnf
              refine ⟨by kernel_rfl, ?_⟩
              conv => whnf
              refine ⟨a.length - (j + 1), by omega, j + 1, rfl, by omega, next eA, ?_⟩
              rw [wr (by omega) (by omega)]; rfl
          · have g4 : ¬ xk = 2 := of_decide_eq_false g4
            have eA : actOk (hasN c) ⟨xk, xn, xa, xw⟩ = false := by unfold actOk; rw [if_neg g1, if_neg g4]
            rw [eA, Bool.false_and] at hf
            rw [hf]
            conv => whnf
            exact fin0 rfl trivial
        · have g := of_decide_eq_false g
          rw [List.length_map] at g
          have hd : a.drop j = [] := List.drop_eq_nil_iff.2 (by dsimp only at g; omega)
          rw [hd] at hf
          rw [hf]
          conv => whnf
          exact fin0 rfl trivial
end Go.PV
namespace Go.PV
open Go
/-! two rules, one behind the other -/
theorem wov_rule' {r : Rul} (h : ruleOk r = true) {b tail : Bs} (hb : blk b = true) (ht : okEnd (5, [46]) tail = true) : WovK tail (ruleK b r) := by
  obtain ⟨h1, h2, h3, h4, h5, h6, h7, h8, h9, h10⟩ := ruleOk_all h
  have hh := hasN_len r.c
  have hr : inR r.p = true := by unfold inR; rw [decide_eq_true_iff]; omega
  have hc : r.c ≠ [] := by intro e; rw [e] at h4; simp at h4
  have ha : r.a ≠ [] := by intro e; rw [e] at h7; simp at h7
  have tc : ∀ c ∈ r.c, weaveK (condK [32] c) = 32 :: condT c := fun c hc => condK_T (h9 c hc) [32]
  have ta : ∀ x ∈ r.a, weaveK (actK [32] x) = 32 :: actT x := fun x hx => actK_T (h10 x hx) [32]
  have w2 : WovK tail (itmK actK r.a ++ [([], (5, [46]))]) := WovK.app (wov_items (t := actT) rfl ta (fun x hx w hw => wov_act (by omega) (h10 x hx) rfl hw)) ⟨rfl, by unfold Tk; decide +kernel, ht, trivial⟩
  have e2 : weaveK (itmK actK r.a ++ [([], (5, [46]))]) ++ tail = 32 :: (Lib.join (r.a.map actT) [44, 32] ++ ([46] ++ tail)) := by
    rw [weaveK_app, itmK_T (t := actT) ha ta]; simp [weaveK]
  have w1 : WovK tail (itmK condK r.c ++ ([32], (5, [45, 62])) :: (itmK actK r.a ++ [([], (5, [46]))])) := by
    refine WovK.app (wov_items (t := condT) rfl tc (fun c hc w hw => wov_cond (h9 c hc) rfl hw)) ⟨rfl, by unfold Tk; decide +kernel, ?_, w2⟩
    rw [e2]; exact okEnd_stop rfl
  refine ⟨hb, by unfold Tk; decide +kernel, okEnd_stop rfl, rfl, tk_word (large := false) (nameS_word h1), okEnd_stop rfl, rfl, tk_num (by rw [refNum_itoa hr]; rfl), okEnd_stop rfl, rfl, by unfold Tk; decide +kernel, ?_, w1⟩
  rw [weaveK_app, itmK_T (t := condT) hc tc]; exact okEnd_stop rfl
theorem rule_r (r : Rul) : ∃ u, ruleT r = 114 :: u := ⟨_, rfl⟩
theorem lex_two {a b : Rul} (ha : ruleOk a = true) (hb : ruleOk b = true) (sep : Bs) (hs : blk sep = true) (he : okEnd (5, [46]) (sep ++ ruleT b) = true) :
    errR (ruleT a ++ (sep ++ ruleT b)) = 0 ∧ (toksR (ruleT a ++ (sep ++ ruleT b))).map kt = (ruleK [] a).map (·.2) ++ ((ruleK sep b).map (·.2) ++ []) := by
  have hw := WovK.app (tail := []) (a := ruleK [] a) (b := ruleK sep b) (by rw [List.append_nil, ruleK_T hb]; exact wov_rule' ha rfl he) (wov_rule hb hs rfl)
  obtain ⟨h1, h2, _⟩ := wovK_R hw rfl
  rw [List.append_nil, weaveK_app, ruleK_T ha, ruleK_T hb, List.nil_append] at h1 h2
  exact ⟨h2, by rw [h1, posL_kt, List.map_append, List.append_nil]⟩
theorem read_two {a b : Rul} (ha : ruleOk a = true) (hb : ruleOk b = true) : errR (ruleT a ++ ([10] ++ ruleT b)) = 0 ∧ ∃ n : Nat, n ≤ (toksR (ruleT a ++ ([10] ++ ruleT b))).length ∧ readR (toksR (ruleT a ++ ([10] ++ ruleT b))) 0 = (a, n, 0) ∧ readR (toksR (ruleT a ++ ([10] ++ ruleT b))) n = (b, (toksR (ruleT a ++ ([10] ++ ruleT b))).length, 0) := by
  obtain ⟨h1, h2⟩ := lex_two ha hb [10] rfl (okEnd_stop rfl)
  have hl := congrArg List.length h2
  simp only [List.length_map, List.length_append, List.length_nil, Nat.add_zero] at hl
  refine ⟨h1, (ruleK [] a).length, by omega, ?_, ?_⟩
  · have := readR_back (i := 0) ha (by rw [List.drop_zero]; exact h2)
    rw [this, Nat.zero_add]
  · have h3 := rest_add (i := 0) (by rw [List.drop_zero]; exact h2)
    rw [Nat.zero_add, List.length_map] at h3
    have := readR_back (i := (ruleK [] a).length) hb h3
    rw [this, ← hl]
theorem parse_two {a b : Rul} (ha : ruleOk a = true) (hb : ruleOk b = true) : (parseR (ruleT a ++ ruleT b)).2 = 7 := by
  obtain ⟨u, hu⟩ := rule_r b
  obtain ⟨h1, h2⟩ := lex_two ha hb [] rfl (by rw [List.nil_append, hu]; exact okEnd_sign (by decide) (by decide))
  rw [List.nil_append] at h1 h2
  have hl := congrArg List.length h2
  simp only [List.length_map, List.length_append, List.length_nil, Nat.add_zero] at hl
  have hp : 0 < (ruleK [] b).length := by unfold ruleK; simp
  have hr := readR_back (i := 0) ha (by rw [List.drop_zero]; exact h2)
  unfold parseR
  rw [if_pos h1, hr]
  dsimp only
  rw [if_neg (fun q => q.2 (by omega))]
end Go.PV
namespace Go.PV
open Go Go.Proofs
set_option maxRecDepth 100000
theorem tokens_long (s : Bs) (hs : 20000 < s.length) (hs2 : s.length ≤ 1000000) : Good Tryz.prog 49 [.str s] [] [.sl 4 [], .agg [.int .i64 0, .int .i64 0], .int .i64 2] [] := by
  refine good_of hP Tryz.func49 (by kernel_rfl) (lv := [0, 2, 3, 4, 5, 6, 7, 10, 24, 36]) (js := []) ⟨rfl, rfl, rfl, rfl, rfl, rfl, _, rfl, ?_⟩
  conv => whnf
  refine branch_of (fun h => ?_) (fun h => ?_)
  · conv => whnf
    exact fin0 rfl trivial
  · have h := of_decide_eq_false h; omega
theorem rulesTwo_good (a b : Rul) {p1 p2 : Prop} (_ : p1) (_ : p2) : Good Tryz.prog 13 [.agg a.v, .agg b.v] [] [.bool true] [] := by
  refine good_of hP Tryz.func13 (by kernel_rfl) (lv := [0, 1, 2, 3, 4, 5, 6, 7, 8, 9, 11, 12, 13, 14, 15, 16, 17, 19, 35, 51, 79]) (js := []) ⟨rfl, rfl, rfl, rfl, rfl, rfl, _, rfl, ?_⟩
  conv => whnf
  refine call0 (heavyR_good a) ?_
  cases ha : rulH a with
  | true =>
    conv => whnf
    exact fin0 rfl trivial
  | false =>
  have hab := rulH_B ha
  conv => whnf
  refine call0 (heavyR_good b) ?_
  cases hb : rulH b with
  | true =>
    conv => whnf
    exact fin0 rfl trivial
  | false =>
  have hbb := rulH_B hb
  conv => whnf
  refine call0 (qrule_good a hab) ?_
  cases hka : ruleOk a with
  | false =>
    conv => whnf
    exact fin0 rfl trivial
  | true =>
  conv => whnf
  refine call0 (qrule_good b hbb) ?_
  cases hkb : ruleOk b with
  | false =>
    conv => whnf
    exact fin0 rfl trivial
  | true =>
  conv => whnf
  refine call0 (rtext_good a hab) ?_
  conv => whnf
  refine call0 (rtext_good b hbb) ?_
  rcases ruleE_cases a with ⟨c1, c2, c3, c4⟩ | ⟨c1, c2, c3, c4⟩
  · rcases ruleE_cases b with ⟨d1, d2, d3, d4⟩ | ⟨d1, d2, d3, d4⟩
    · rw [c1, c4, d1, d4]
      conv => whnf
      refine ⟨⟨⟩, by show (ruleT a).length + 1 ≤ 9223372036854775807; omega, ?_⟩
      conv => whnf
      refine ⟨⟨⟩, by show (ruleT a ++ [10]).length + (ruleT b).length ≤ 9223372036854775807; simp only [List.length_append, List.length_cons, List.length_nil]; omega, ?_⟩
      conv => whnf
      obtain ⟨h1, n, hn, r1, r2⟩ := read_two c2 d2
      have hpt := parse_two c2 d2
      rw [List.append_assoc]
      by_cases hlong : 20000 < (ruleT a ++ ([10] ++ ruleT b)).length
      · refine call0 (tokens_long (ruleT a ++ ([10] ++ ruleT b)) hlong (by simp only [List.length_append, List.length_cons, List.length_nil]; omega)) ?_
        simp only [List.length_append, List.length_cons, List.length_nil] at hlong
        conv => whnf
        refine branch_of (fun q => ?_) (fun q => ?_)
        · conv => whnf
          refine call0 (wakes11_good) ?_
          conv => whnf
          exact fin0 rfl trivial
        · have q := of_decide_eq_false q
          rw [wr (by omega) (by omega)] at q; omega
      · have hb1 := tokB_R (ruleT a ++ ([10] ++ ruleT b)) (by omega)
        refine call0 (tokens_good (ruleT a ++ ([10] ++ ruleT b)) (by omega)) ?_
        rw [h1]
        simp only [List.length_append, List.length_cons, List.length_nil] at hlong
        generalize toksR (ruleT a ++ ([10] ++ ruleT b)) = l at *
        generalize posR (ruleT a ++ ([10] ++ ruleT b)) = z1
        conv => whnf
        refine call0 (readR_good l 0 hb1 (Nat.zero_le _)) ?_
        rw [r1]
        conv => whnf
        refine call0 (readR_good l n hb1 hn) ?_
        rw [r2]
        conv => whnf
        refine ⟨⟨⟩, by dsimp only; omega, ?_⟩
        conv => whnf
        refine call0 (parseR_good (ruleT a ++ ruleT b) (by rw [List.length_append]; omega)) ?_
        rw [hpt]
        generalize (parseR (ruleT a ++ ruleT b)).1 = z2
        conv => whnf
        refine call0 (keepRule_good a a hab) ?_
        rw [decide_eq_true rfl]
        conv => whnf
        refine call0 (keepRule_good b b hbb) ?_
        rw [decide_eq_true rfl]
        conv => whnf
        refine branch_of (fun q => ?_) (fun q => ?_)
        · conv => whnf
          refine call0 (wakes11_good) ?_
          conv => whnf
          exact fin0 rfl trivial
        · have q := of_decide_eq_false q
          rw [List.length_map] at q; exact absurd rfl q
    · rw [c1, (d3 hkb).1]
      conv => whnf
      refine call0 (wakes11_good) ?_
      conv => whnf
      exact fin0 rfl trivial
  · rw [(c3 hka).1]
    conv => whnf
    rcases ruleE_cases b with ⟨d1, d2, d3, d4⟩ | ⟨d1, d2, d3, d4⟩
    · rw [d1]
      conv => whnf
      refine call0 (wakes11_good) ?_
      conv => whnf
      exact fin0 rfl trivial
    · rw [(d3 hkb).1]
      conv => whnf
      refine call0 (wakes11_good) ?_
      conv => whnf
      exact fin0 rfl trivial
end Go.PV
namespace Go.PV
open Go Go.Proofs
set_option maxRecDepth 100000
theorem twinOps_good (l : List Stp) (hl : l.length ≤ 1000000) : Good Tryz.prog 108 [.sl 5 (stpV l)] [] [.sl 5 (stpV l)] [] := by
  refine good_of hP Tryz.func108 (by kernel_rfl) (lv := [0, 2, 3]) (js := []) ⟨rfl, rfl, rfl, rfl, rfl, rfl, _, rfl, ?_⟩
  conv => whnf
  refine ⟨⟨⟩, by rw [List.length_map]; dsimp only; omega, ?_⟩
  conv => whnf
  exact fin0 rfl trivial
theorem twinAtom_good (f : Atm) (hl : f.a.length ≤ 1000000) : Good Tryz.prog 81 [.agg f.c] [] [.agg f.c] [] := by
  obtain ⟨n, l⟩ := f
  dsimp only at hl
  refine good_of hP Tryz.func81 (by kernel_rfl) (lv := [0, 1, 2, 3]) (js := []) ⟨rfl, rfl, rfl, rfl, rfl, rfl, _, rfl, ?_⟩
  conv => whnf
  refine ⟨⟨⟩, by rw [List.length_map]; dsimp only; omega, ?_⟩
  conv => whnf
  exact fin0 rfl trivial
theorem twinConds_own (l : List Cnd) (hl : l.length ≤ 1000000) (hb : ∀ c ∈ l, cndB c) : Good Tryz.prog 107 [.sl 6 (cndV l)] [] [.own 0 0] [.arr 0 false 6 (cndV l)] := by
  refine good_of hP Tryz.func107 (by kernel_rfl) (lv := [0, 2, 3, 4, 5, 9]) (js := []) ⟨rfl, rfl, rfl, rfl, rfl, rfl, _, rfl, ?_⟩
  conv => whnf
  refine loop_of hP [0, 2, 3, 4, 5, 9] [] [0, 2, 3, 4] [67] [.slot 3 6] (fun m st => ∃ k : Nat, m = l.length - k ∧ k ≤ l.length ∧ st = ⟨[(0, .sl 6 (cndV l)), (2, .nil), (3, .own 67 0), (4, .int .i64 k)], [(67, .arr 0 false 6 (cndV (l.take k)))]⟩) l.length ?_ ?_
  · conv => whnf
    exact ⟨0, rfl, Nat.zero_le _, rfl⟩
  · rintro m st ⟨k, rfl, hk, rfl⟩
    conv => whnf
    refine branch_of (fun h => ?_) (fun h => ?_)
    · have h := of_decide_eq_true h
      rw [List.length_map] at h
      have hk' : k < l.length := by omega
      obtain ⟨b1, b2, b3, b4, b5, b6, b7⟩ := hb _ (List.getElem_mem hk')
      conv => whnf
      refine ⟨Cnd.c l[k], idxM hk' rfl, ?_⟩
      conv => whnf
      refine call0 (twinAtom_good l[k].a b2) ?_
      conv => whnf
      refine call0 (twinOps_good l[k].l b4) ?_
      conv => whnf
      refine call0 (twinOps_good l[k].r b6) ?_
      conv => whnf
      refine ⟨by kernel_rfl, ?_⟩
      conv => whnf
      refine ⟨⟨⟩, by dsimp only; simp only [List.length_map, List.length_take, List.length_cons, List.length_nil]; omega, ?_⟩
      conv => whnf
      refine ⟨l.length - (k + 1), by omega, k + 1, rfl, by omega, ?_⟩
      rw [← List.take_append_getElem hk', show cndV (l.take k ++ [l[k]]) = cndV (l.take k) ++ [l[k].c] from List.map_append, wr (by omega) (by omega)]
      rfl
    · have h := of_decide_eq_false h
      rw [List.length_map] at h
      rw [List.take_of_length_le (by omega)]
      conv => whnf
      refine ⟨[(67, 0)], rfl, ?_⟩
      conv => whnf
      exact ⟨⟨⟩, rfl, trivial⟩
theorem twinRule_own (r : Rul) (hb : rulB r) : Good Tryz.prog 51 [.agg r.v] [] [.agg [.str r.n, .int .i64 r.p, .own 0 0, .own 1 0]] [.arr 0 false 6 (cndV r.c), .arr 0 false 4 (actV r.a)] := by
  obtain ⟨n, p, c, a⟩ := r
  obtain ⟨b1, b2, b3, b4, b5⟩ := hb
  dsimp only at b1 b2 b3 b4 b5
  refine good_of hP Tryz.func51 (by kernel_rfl) (lv := [0, 1, 2, 3, 4, 5, 6, 19, 36]) (js := []) ⟨rfl, rfl, rfl, rfl, rfl, rfl, _, rfl, ?_⟩
  conv => whnf
  refine call0 (twinConds_own c b2 b3) ?_
  conv => whnf
  refine ⟨by kernel_rfl, ?_⟩
  conv => whnf
  refine loop_of hP [0, 1, 2, 3, 4, 5, 6, 19, 36] [] [1, 2, 3, 4] [65, 66, 67, 1856, 104291] [.cell 67 3 4] (fun m st => ∃ k : Nat, m = a.length - k ∧ k ≤ a.length ∧ st = ⟨[(1, .ptr 65 0 0), (2, .ptr 66 0 0), (3, .ptr 67 0 0), (4, .int .i64 k)], [(65, .box 0 (Rul.v ⟨n, p, c, a⟩)), (66, .box 0 [.str [], .int .i64 0, .nil, .nil]), (67, .box 0 [.str n, .int .i64 p, .own 1856 0, .own 104291 0]), (1856, .arr 0 false 6 (cndV c)), (104291, .arr 0 false 4 (actV (a.take k)))]⟩) a.length ?_ ?_
  · conv => whnf
    exact ⟨0, rfl, Nat.zero_le _, rfl⟩
  · rintro m st ⟨k, rfl, hk, rfl⟩
    conv => whnf
    refine branch_of (fun h => ?_) (fun h => ?_)
    · have h := of_decide_eq_true h
      rw [List.length_map] at h
      have hk' : k < a.length := by dsimp only at h; omega
      have hbk := b5 _ (List.getElem_mem hk')
      conv => whnf
      refine ⟨Act.c a[k], idxM hk' rfl, ?_⟩
      conv => whnf
      generalize hx : a[k] = x at *
      obtain ⟨xk, xn, xa, xw⟩ := x
      obtain ⟨q1, q2, q3⟩ := hbk
      dsimp only at q1 q2 q3
      refine loop_of hP [0, 1, 2, 3, 4, 5, 6, 19, 36] [] [1, 2, 3, 4, 5, 6] [65, 66, 67, 69, 1856, 104291, 104418] [.cell 69 2 1] (fun m st => ∃ i : Nat, m = xa.length - i ∧ i ≤ xa.length ∧ st = ⟨[(1, .ptr 65 0 0), (2, .ptr 66 0 0), (3, .ptr 67 0 0), (4, .int .i64 k), (5, .ptr 69 0 0), (6, .int .i64 i)], [(65, .box 0 (Rul.v ⟨n, p, c, a⟩)), (66, .box 0 [.str [], .int .i64 0, .nil, .nil]), (67, .box 0 [.str n, .int .i64 p, .own 1856 0, .own 104291 0]), (69, .box 0 [.int .i64 xk, .str xn, .own 104418 0, .int .i64 xw]), (1856, .arr 0 false 6 (cndV c)), (104291, .arr 0 false 4 (actV (a.take k))), (104418, .arr 0 false 1 (opsV (xa.take i)))]⟩) xa.length ?_ ?_
      · conv => whnf
        exact ⟨0, rfl, Nat.zero_le _, rfl⟩
      · rintro m st ⟨i, rfl, hi, rfl⟩
        have hrow : (0 : Int) ≤ ((k : Nat) : Int) ∧ (actV a)[((k : Nat) : Int).toNat]? = some (Act.c ⟨xk, xn, xa, xw⟩) := by rw [← hx]; exact idxM hk' rfl
        conv => whnf
        refine ⟨Act.c ⟨xk, xn, xa, xw⟩, hrow, ?_⟩
        conv => whnf
        refine branch_of (fun q => ?_) (fun q => ?_)
        · have q := of_decide_eq_true q
          rw [List.length_map] at q
          have hi' : i < xa.length := by dsimp only at q; omega
          conv => whnf
          refine ⟨Act.c ⟨xk, xn, xa, xw⟩, hrow, ?_⟩
          conv => whnf
          refine ⟨[.sl 5 (stpV xa[i])], idxM (f := fun x : List Stp => [V.sl 5 (stpV x)]) hi' rfl, ?_⟩
          conv => whnf
          refine call0 (twinOps_good xa[i] (q3 _ (List.getElem_mem hi')).1) ?_
          conv => whnf
          refine ⟨⟨⟩, by dsimp only; simp only [List.length_map, List.length_take, List.length_cons, List.length_nil]; omega, ?_⟩
          conv => whnf
          refine ⟨by kernel_rfl, ?_⟩
          conv => whnf
          refine ⟨xa.length - (i + 1), by omega, i + 1, rfl, by omega, ?_⟩
          rw [← List.take_append_getElem hi', show opsV (xa.take i ++ [xa[i]]) = opsV (xa.take i) ++ [[.sl 5 (stpV xa[i])]] from List.map_append, wr (by omega) (by omega)]
          rfl
        · have q := of_decide_eq_false q
          rw [List.length_map] at q
          have ex : xa.take i = xa := List.take_of_length_le (by dsimp only at q; omega)
          rw [ex]
          conv => whnf
          refine ⟨⟨⟩, by dsimp only; simp only [List.length_map, List.length_take, List.length_cons, List.length_nil]; omega, ?_⟩
          conv => whnf
          refine ⟨a.length - (k + 1), by omega, k + 1, rfl, by omega, ?_⟩
          rw [← List.take_append_getElem hk', hx, show actV (a.take k ++ [⟨xk, xn, xa, xw⟩]) = actV (a.take k) ++ [Act.c ⟨xk, xn, xa, xw⟩] from List.map_append, wr (by omega) (by omega)]
          rfl
    · have h := of_decide_eq_false h
      rw [List.length_map] at h
      rw [List.take_of_length_le (by dsimp only at h; omega)]
      conv => whnf
      refine ⟨[(1856, 0), (104291, 0)], rfl, ?_⟩
      conv => whnf
      refine ⟨⟨⟩, rfl, ?_⟩
      conv => whnf
      exact ⟨⟨⟩, rfl, trivial⟩
end Go.PV
namespace Go.PV
open Go Go.Proofs
set_option maxRecDepth 100000
theorem cclos_nil (x : Act) (m : Int) (hb : actB x) (hx : x.a = []) : Good Tryz.prog 123 [.agg [.int .i64 x.k, .str x.n, .nil, .int .i64 x.w], .ptr 0 0 0] [.box 0 [.int .i64 m]] [.bool (!actOk m x)] [.box 0 [.int .i64 m]] := by
  obtain ⟨k, n, a, w⟩ := x
  dsimp only at hx
  subst hx
  refine good_of hP Tryz.func123 (by kernel_rfl) (lv := [0, 1, 2, 3]) (js := []) ⟨rfl, rfl, rfl, rfl, rfl, rfl, _, rfl, ?_⟩
  conv => whnf
  refine call0 (ract_good ⟨k, n, [], w⟩ m hb) ?_
  conv => whnf
  refine ⟨[], rfl, ?_⟩
  conv => whnf
  exact ⟨⟨⟩, rfl, trivial⟩
theorem indexAct_raw (L : List (List V)) (l : List Act) (hL : L.length = l.length) (hrow : ∀ (j : Nat) (h1 : j < L.length) (h2 : j < l.length), L[j] = l[j].c ∨ (l[j].a = [] ∧ L[j] = [.int .i64 l[j].k, .str l[j].n, .nil, .int .i64 l[j].w])) (hl : l.length ≤ 1000000) (g : FuncId) (m : Int) (p : Act → Bool) (hg : ∀ (j : Nat) (h1 : j < L.length) (h2 : j < l.length), Good Tryz.prog g [.agg L[j], .ptr 0 0 0] [.box 0 [.int .i64 m]] [.bool (p l[j])] [.box 0 [.int .i64 m]]) : Good Tryz.prog 188 [.sl 4 L, .fn g [.ptr 0 0 0]] [.box 0 [.int .i64 m]] [.int .i64 (match l.findIdx? p with | some i => (i : Int) | none => -1)] [.box 0 [.int .i64 m]] := by
  refine good_of hP Tryz.func188 (by kernel_rfl) (lv := [0, 1, 4, 5, 7, 8, 9, 16]) (js := []) ⟨rfl, rfl, rfl, rfl, rfl, rfl, _, rfl, ?_⟩
  conv => whnf
  refine loop_of hP [0, 1, 4, 5, 7, 8, 9, 16] [] [0, 1, 7, 8] [0] [] (fun n st => ∃ k : Nat, n = l.length - k ∧ k ≤ l.length ∧ (∀ j (h : j < l.length), j < k → p l[j] = false) ∧ st = ⟨[(0, .sl 4 L), (1, .fn g [.ptr 0 0 0]), (7, .int .i64 l.length), (8, .int .i64 k)], [(0, .box 0 [.int .i64 m])]⟩) l.length ?_ ?_
  · conv => whnf
    exact ⟨0, rfl, Nat.zero_le _, fun j _ h => by omega, by rw [← hL]; rfl⟩
  · rintro n st ⟨k, rfl, hk, hn, rfl⟩
    conv => whnf
    refine branch_of (fun h => ?_) (fun h => ?_)
    · have h := of_decide_eq_true h
      have hk' : k < l.length := by omega
      conv => whnf
      have hkL : k < L.length := by omega
      rcases hrow k hkL hk' with e | ⟨ez, e⟩
      · have hgk := hg k hkL hk'
        rw [e] at hgk
        refine ⟨Act.c l[k], ⟨by omega, by rw [Int.toNat_natCast, ← e]; exact List.getElem?_eq_getElem hkL⟩, ?_⟩
        conv => whnf
        refine callN [(0, 0)] (hgk) ?_ 
        conv => whnf
        refine ⟨⟨⟩, rfl, ?_⟩
        cases hp : p l[k] with
        | true =>
          have : l.findIdx? p = some k := by
            rw [List.findIdx?_eq_some_iff_getElem]
            exact ⟨hk', hp, fun j hj => by simpa using hn j (by omega) hj⟩
          rw [this]
          conv => whnf
          refine ⟨[], rfl, ?_⟩
          conv => whnf
          exact ⟨⟨⟩, rfl, trivial⟩
        | false =>
          conv => whnf
          refine ⟨l.length - (k + 1), by omega, k + 1, rfl, by omega, fun j hj hjk => ?_, ?_⟩
          · by_cases e : j = k
            · subst e; exact hp
            · exact hn j hj (by omega)
          · rw [wr (by omega) (by omega)]; rfl
      · have hgk := hg k hkL hk'
        rw [e] at hgk
        refine ⟨[.int .i64 l[k].k, .str l[k].n, .nil, .int .i64 l[k].w], ⟨by omega, by rw [Int.toNat_natCast, ← e]; exact List.getElem?_eq_getElem hkL⟩, ?_⟩
        conv => whnf
        refine callN [(0, 0)] (hgk) ?_ 
        conv => whnf
        refine ⟨⟨⟩, rfl, ?_⟩
        cases hp : p l[k] with
        | true =>
          have : l.findIdx? p = some k := by
            rw [List.findIdx?_eq_some_iff_getElem]
            exact ⟨hk', hp, fun j hj => by simpa using hn j (by omega) hj⟩
          rw [this]
          conv => whnf
          refine ⟨[], rfl, ?_⟩
          conv => whnf
          exact ⟨⟨⟩, rfl, trivial⟩
        | false =>
          conv => whnf
          refine ⟨l.length - (k + 1), by omega, k + 1, rfl, by omega, fun j hj hjk => ?_, ?_⟩
          · by_cases e : j = k
            · subst e; exact hp
            · exact hn j hj (by omega)
          · rw [wr (by omega) (by omega)]; rfl
    · have h := of_decide_eq_false h
      have : l.findIdx? p = none := by
        rw [List.findIdx?_eq_none_iff]
        intro x hx
        obtain ⟨j, hj, rfl⟩ := List.getElem_of_mem hx
        exact hn j hj (by omega)
      rw [this]
      conv => whnf
      refine ⟨[], rfl, ?_⟩
      conv => whnf
      exact ⟨⟨⟩, rfl, trivial⟩
theorem containsAct_raw (L : List (List V)) (l : List Act) (hL : L.length = l.length) (hrow : ∀ (j : Nat) (h1 : j < L.length) (h2 : j < l.length), L[j] = l[j].c ∨ (l[j].a = [] ∧ L[j] = [.int .i64 l[j].k, .str l[j].n, .nil, .int .i64 l[j].w])) (hl : l.length ≤ 1000000) (g : FuncId) (m : Int) (p : Act → Bool) (hg : ∀ (j : Nat) (h1 : j < L.length) (h2 : j < l.length), Good Tryz.prog g [.agg L[j], .ptr 0 0 0] [.box 0 [.int .i64 m]] [.bool (p l[j])] [.box 0 [.int .i64 m]]) : Good Tryz.prog 122 [.sl 4 L, .fn g [.ptr 0 0 0]] [.box 0 [.int .i64 m]] [.bool (l.any p)] [.box 0 [.int .i64 m]] := by
  refine good_of hP Tryz.func122 (by kernel_rfl) (lv := [0, 1, 4]) (js := []) ⟨rfl, rfl, rfl, rfl, rfl, rfl, _, rfl, ?_⟩
  conv => whnf
  refine callN [(0, 0)] (indexAct_raw L l hL hrow hl g m p hg) ?_ 
  conv => whnf
  refine ⟨⟨⟩, rfl, ?_⟩
  rw [← any_idx l p]
  conv => whnf
  refine ⟨[], rfl, ?_⟩
  conv => whnf
  exact ⟨⟨⟩, rfl, trivial⟩
theorem rcheck_raw (r : Rul) (hb : rulB r) (L : List (List V)) (hL : L.length = r.a.length) (hrow : ∀ (j : Nat) (h1 : j < L.length) (h2 : j < r.a.length), L[j] = r.a[j].c ∨ (r.a[j].a = [] ∧ L[j] = [.int .i64 r.a[j].k, .str r.a[j].n, .nil, .int .i64 r.a[j].w])) (hg : ∀ (m : Int) (j : Nat) (h1 : j < L.length) (h2 : j < r.a.length), Good Tryz.prog 123 [.agg L[j], .ptr 0 0 0] [.box 0 [.int .i64 m]] [.bool (!actOk m r.a[j])] [.box 0 [.int .i64 m]]) : Good Tryz.prog 59 [.agg [.str r.n, .int .i64 r.p, .sl 6 (cndV r.c), .sl 4 L]] [] [.int .i64 (if ruleOk r then 0 else 1)] [] := by
  obtain ⟨n, p, c, a⟩ := r
  obtain ⟨b1, b2, b3, b4, b5⟩ := hb
  dsimp only at b1 b2 b3 b4 b5 hL hrow hg
  refine good_of hP Tryz.func59 (by kernel_rfl) (lv := [0, 1, 2, 3, 5, 51, 53, 54, 55, 56, 61, 64, 71]) (js := []) ⟨rfl, rfl, rfl, rfl, rfl, rfl, _, rfl, ?_⟩
  unfold ruleOk
  dsimp only
  conv => whnf
  refine call0 (fname_good n b1) ?_
  cases nameS n with
  | false =>
    conv => whnf
    exact fin0 rfl trivial
  | true =>
  rw [Bool.true_and]
  conv => whnf
  refine branch_of (fun h1 => ?_) (fun h1 => ?_)
  · have h1 := of_decide_eq_true h1
    have e : decide (-1000 ≤ p ∧ p ≤ 1000) = false := decide_eq_false (by (try dsimp only at h1); omega)
    rw [e]
    conv => whnf
    exact fin0 rfl trivial
  have h1 := of_decide_eq_false h1
  conv => whnf
  refine branch_of (fun h2 => ?_) (fun h2 => ?_)
  · have h2 := of_decide_eq_true h2
    have e : decide (-1000 ≤ p ∧ p ≤ 1000) = false := decide_eq_false (by (try dsimp only at h2); omega)
    rw [e]
    conv => whnf
    exact fin0 rfl trivial
  have h2 := of_decide_eq_false h2
  have e : decide (-1000 ≤ p ∧ p ≤ 1000) = true := decide_eq_true (by (try dsimp only at h1 h2); omega)
  rw [e, Bool.true_and]
  conv => whnf
  refine branch_of (fun h3 => ?_) (fun h3 => ?_)
  · have h3 := of_decide_eq_true h3
    rw [List.length_map] at h3
    have e : decide (1 ≤ c.length ∧ c.length ≤ 6) = false := decide_eq_false (by (try dsimp only at h3); omega)
    rw [e]
    conv => whnf
    exact fin0 rfl trivial
  have h3 := of_decide_eq_false h3
  rw [List.length_map] at h3
  conv => whnf
  refine branch_of (fun h4 => ?_) (fun h4 => ?_)
  · have h4 := of_decide_eq_true h4
    rw [List.length_map] at h4
    have e : decide (1 ≤ c.length ∧ c.length ≤ 6) = false := decide_eq_false (by (try dsimp only at h4); omega)
    rw [e]
    conv => whnf
    exact fin0 rfl trivial
  have h4 := of_decide_eq_false h4
  rw [List.length_map] at h4
  (try dsimp only at h3 h4)
  have e : decide (1 ≤ c.length ∧ c.length ≤ 6) = true := decide_eq_true (by omega)
  rw [e, Bool.true_and]
  have h0 : 0 < c.length := by omega
  have e0 : headK c = c[0].k := by cases c with
    | nil => simp at h0
    | cons x r => rfl
  rw [e0]
  conv => whnf
  refine ⟨Cnd.c c[0], idxM h0 rfl, ?_⟩
  conv => whnf
  refine branch_of (fun h5 => ?_) (fun h5 => ?_)
  · rw [Bool.not_eq_true'] at h5
    have h5 : decide (c[0].k = 1) = false := h5
    rw [h5]
    conv => whnf
    exact fin0 rfl trivial
  rw [Bool.not_eq_false'] at h5
  have h5 : decide (c[0].k = 1) = true := h5
  rw [h5, Bool.true_and]
  conv => whnf
  refine branch_of (fun h6 => ?_) (fun h6 => ?_)
  · have h6 := of_decide_eq_true h6
    rw [hL] at h6
    have e : decide (1 ≤ a.length ∧ a.length ≤ 6) = false := decide_eq_false (by (try dsimp only at h6); omega)
    rw [e]
    conv => whnf
    exact fin0 rfl trivial
  have h6 := of_decide_eq_false h6
  rw [hL] at h6
  conv => whnf
  refine branch_of (fun h7 => ?_) (fun h7 => ?_)
  · have h7 := of_decide_eq_true h7
    rw [hL] at h7
    have e : decide (1 ≤ a.length ∧ a.length ≤ 6) = false := decide_eq_false (by (try dsimp only at h7); omega)
    rw [e]
    conv => whnf
    exact fin0 rfl trivial
  have h7 := of_decide_eq_false h7
  rw [hL] at h7
  (try dsimp only at h6 h7)
  have e : decide (1 ≤ a.length ∧ a.length ≤ 6) = true := decide_eq_true (by omega)
  rw [e, Bool.true_and]
  conv => whnf
  refine loop_of hP [0, 1, 2, 3, 5, 51, 53, 54, 55, 56, 61, 64, 71] [] [1, 2, 3, 53, 54, 55] [65, 67] [] (fun m st => ∃ k : Nat, m = c.length - k ∧ k ≤ c.length ∧ c.all condOk = (c.drop k).all condOk ∧ st = ⟨[(1, .ptr 65 0 0), (2, .int .i64 0), (3, .ptr 67 0 0), (53, .sl 6 (cndV c)), (54, .int .i64 c.length), (55, .int .i64 k)], [(65, .box 0 [.str n, .int .i64 p, .sl 6 (cndV c), .sl 4 L]), (67, .box 0 [.int .i64 (hasN (c.take k))])]⟩) c.length ?_ ?_
  · conv => whnf
    exact ⟨0, rfl, Nat.zero_le _, rfl, by rw [← List.length_map (f := Cnd.c)]; rfl⟩
  · rintro m st ⟨k, rfl, hk, he, rfl⟩
    conv => whnf
    refine branch_of (fun h => ?_) (fun h => ?_)
    · have h := of_decide_eq_true h
      have hk' : k < c.length := by omega
      rw [List.drop_eq_getElem_cons hk', List.all_cons] at he
      have hht := hasN_take c hk'
      have hhl := hasN_le (c.take k)
      rw [List.length_take] at hhl
      conv => whnf
      refine ⟨Cnd.c c[k], idxM hk' rfl, ?_⟩
      conv => whnf
      refine call0 (rcond_good c[k] (b3 _ (List.getElem_mem hk'))) ?_
      cases hc : condOk c[k] with
      | false =>
        rw [hc, Bool.false_and] at he
        rw [he]
        conv => whnf
        exact fin0 rfl trivial
      | true =>
        rw [hc, Bool.true_and] at he
        conv => whnf
        refine branch_of (fun g => ?_) (fun g => ?_)
        · have g : c[k].k = 1 := of_decide_eq_true g
          rw [if_pos g] at hht
          conv => whnf
          refine ⟨c.length - (k + 1), by omega, k + 1, rfl, by omega, he, ?_⟩
          rw [hht, wr (by omega) (by omega), wr (by omega) (by omega)]; rfl
        · have g : ¬ c[k].k = 1 := of_decide_eq_false g
          rw [if_neg g, Nat.add_zero] at hht
          conv => whnf
          refine ⟨c.length - (k + 1), by omega, k + 1, rfl, by omega, he, ?_⟩
          rw [hht, wr (by omega) (by omega)]; rfl
    · have h := of_decide_eq_false h
      have hd : c.drop k = [] := List.drop_eq_nil_iff.2 (by omega)
      rw [hd] at he
      rw [he, List.take_of_length_le (by omega), show (([] : List Cnd).all condOk) = true from rfl, Bool.true_and]
      conv => whnf
      refine callN [(67, 0)] (containsAct_raw L a hL hrow b4 123 (hasN c) (fun x => !actOk (hasN c) x) (fun j h1 h2 => hg (hasN c) j h1 h2)) ?_ 
      conv => whnf
      refine ⟨⟨⟩, rfl, ?_⟩
      have e9 : (a.any fun x => !actOk (hasN c) x) = !(a.all (actOk (hasN c))) := by rw [List.any_eq_not_all_not]; simp
      rw [e9]
      cases a.all (actOk (hasN c)) with
      | true =>
        conv => whnf
        exact fin0 rfl trivial
      | false =>
        conv => whnf
        exact fin0 rfl trivial
theorem rtext_raw (r : Rul) (hb : rulB r) (L : List (List V)) (hL : L.length = r.a.length) (hrow : ∀ (j : Nat) (h1 : j < L.length) (h2 : j < r.a.length), L[j] = r.a[j].c ∨ (r.a[j].a = [] ∧ L[j] = [.int .i64 r.a[j].k, .str r.a[j].n, .nil, .int .i64 r.a[j].w])) (hg : ∀ (m : Int) (j : Nat) (h1 : j < L.length) (h2 : j < r.a.length), Good Tryz.prog 123 [.agg L[j], .ptr 0 0 0] [.box 0 [.int .i64 m]] [.bool (!actOk m r.a[j])] [.box 0 [.int .i64 m]]) (hk : ruleOk r = false) : Good Tryz.prog 52 [.agg [.str r.n, .int .i64 r.p, .sl 6 (cndV r.c), .sl 4 L]] [] [.str [], .int .i64 1] [] := by
  have hc := rcheck_raw r hb L hL hrow hg
  rw [hk, if_neg (by simp)] at hc
  refine good_of hP Tryz.func52 (by kernel_rfl) (lv := [0, 1, 2, 3, 4, 5, 6, 8, 10, 11, 15, 18, 19, 20, 21, 31, 32, 33, 34, 62]) (js := []) ⟨rfl, rfl, rfl, rfl, rfl, rfl, _, rfl, ?_⟩
  conv => whnf
  refine call0 (hc) ?_
  conv => whnf
  exact fin0 rfl trivial
end Go.PV
namespace Go.PV
open Go Go.Proofs
set_option maxRecDepth 100000
theorem rows_ok (T : List Act) (x : Act) (hx : x.a = []) (hb : ∀ y ∈ T ++ [x], actB y) : (actV T ++ [[V.int .i64 x.k, .str x.n, .nil, .int .i64 x.w]]).length = (T ++ [x]).length ∧
    (∀ (j : Nat) (h1 : j < (actV T ++ [[V.int .i64 x.k, .str x.n, .nil, .int .i64 x.w]]).length) (h2 : j < (T ++ [x]).length), (actV T ++ [[V.int .i64 x.k, .str x.n, .nil, .int .i64 x.w]])[j] = (T ++ [x])[j].c ∨ ((T ++ [x])[j].a = [] ∧ (actV T ++ [[V.int .i64 x.k, .str x.n, .nil, .int .i64 x.w]])[j] = [.int .i64 (T ++ [x])[j].k, .str (T ++ [x])[j].n, .nil, .int .i64 (T ++ [x])[j].w])) ∧
    (∀ (m : Int) (j : Nat) (h1 : j < (actV T ++ [[V.int .i64 x.k, .str x.n, .nil, .int .i64 x.w]]).length) (h2 : j < (T ++ [x]).length), Good Tryz.prog 123 [.agg (actV T ++ [[V.int .i64 x.k, .str x.n, .nil, .int .i64 x.w]])[j], .ptr 0 0 0] [.box 0 [.int .i64 m]] [.bool (!actOk m (T ++ [x])[j])] [.box 0 [.int .i64 m]]) := by
  have hr : ∀ (j : Nat) (h1 : j < (actV T ++ [[V.int .i64 x.k, .str x.n, .nil, .int .i64 x.w]]).length) (h2 : j < (T ++ [x]).length), (actV T ++ [[V.int .i64 x.k, .str x.n, .nil, .int .i64 x.w]])[j] = (T ++ [x])[j].c ∨ ((T ++ [x])[j].a = [] ∧ (actV T ++ [[V.int .i64 x.k, .str x.n, .nil, .int .i64 x.w]])[j] = [.int .i64 (T ++ [x])[j].k, .str (T ++ [x])[j].n, .nil, .int .i64 (T ++ [x])[j].w]) := by
    intro j h1 h2
    by_cases hj : j < T.length
    · left
      rw [List.getElem_append_left (by rw [List.length_map]; exact hj), List.getElem_append_left hj, List.getElem_map]
    · right
      have e : j = T.length := by rw [List.length_append, List.length_cons, List.length_nil] at h2; omega
      subst e
      have e1 : (T ++ [x])[T.length] = x := by simp
      have e2 : (actV T ++ [[V.int .i64 x.k, .str x.n, .nil, .int .i64 x.w]])[T.length] = [V.int .i64 x.k, .str x.n, .nil, .int .i64 x.w] := by
        rw [List.getElem_append_right (by rw [List.length_map]; exact Nat.le_refl _)]; simp
      rw [e1, e2]; exact ⟨hx, rfl⟩
  refine ⟨by simp, hr, fun m j h1 h2 => ?_⟩
  have hm := hb _ (List.getElem_mem h2)
  rcases hr j h1 h2 with e | ⟨ez, e⟩
  · rw [e]; exact cclos_good _ m hm
  · rw [e]; exact cclos_nil _ m hm ez
theorem rulesBent_good (r : Rul) (how : Int) {p1 p2 : Prop} (_ : p1) (_ : p2) : Good Tryz.prog 14 [.agg r.v, .int .i64 how] [] [.bool true] [] := by
  refine good_of hP Tryz.func14 (by kernel_rfl) (lv := [0, 1, 2, 4, 5, 6, 7, 14, 19, 21, 24, 27, 33, 36, 49, 55]) (js := []) ⟨rfl, rfl, rfl, rfl, rfl, rfl, _, rfl, ?_⟩
  have e8 : ∃ j : Nat, j < 8 ∧ (IntKind.u64.wrap how).tmod 8 = (j : Int) := by
    have h2 : 0 ≤ IntKind.u64.wrap how := by rw [wru]; omega
    have h3 := Int.tmod_nonneg 8 h2
    have h4 := Int.tmod_lt_of_pos (IntKind.u64.wrap how) (show (0 : Int) < 8 by omega)
    exact ⟨((IntKind.u64.wrap how).tmod 8).toNat, by omega, by omega⟩
  obtain ⟨j, hj, hw⟩ := e8
  conv => whnf
  refine call0 (heavyR_good r) ?_
  cases ha : rulH r with
  | true =>
    conv => whnf
    exact fin0 rfl trivial
  | false =>
  have hb := rulH_B ha
  conv => whnf
  refine call0 (qrule_good r hb) ?_
  cases hk : ruleOk r with
  | false =>
    conv => whnf
    exact fin0 rfl trivial
  | true =>
  obtain ⟨h1, h2, h3, h4, h5, h6, h7, h8, h9, h10⟩ := ruleOk_all hk
  have hh := hasN_le r.c
  have hck := rcheck_good r hb
  rw [hk, if_pos rfl] at hck
  have htw := twinRule_own r hb
  obtain ⟨b1, b2, b3, b4, b5⟩ := hb
  obtain ⟨n, p, c, a⟩ := r
  dsimp only at b1 b2 b3 b4 b5 h1 h2 h3 h4 h5 h6 h7 h8 h9 h10 hh htw hck
  cases c with
  | nil => simp at h4
  | cons c0 cs =>
  cases a with
  | nil => simp at h7
  | cons a0 al =>
  conv => whnf
  refine call0 (htw) ?_
  conv => whnf
  refine ⟨⟨⟩, by decide, ?_⟩
  conv => whnf
  rw [hw]
  have h8c : j = 0 ∨ j = 1 ∨ j = 2 ∨ j = 3 ∨ j = 4 ∨ j = 5 ∨ j = 6 ∨ j = 7 := by omega
  rcases h8c with rfl | rfl | rfl | rfl | rfl | rfl | rfl | rfl
  · conv => whnf
    have hxk : ruleOk ⟨n, p, [], a0 :: al⟩ = false := by
      cases hq : ruleOk ⟨n, p, [], a0 :: al⟩ with
      | false => rfl
      | true =>
        obtain ⟨q1, q2, q3, q4, q5, q6, q7, q8, q9, q10⟩ := ruleOk_all hq
        exfalso
        simp at q4
    have hxB : rulB ⟨n, p, [], a0 :: al⟩ := ⟨b1, Nat.zero_le _, fun x hx => absurd hx List.not_mem_nil, b4, b5⟩
    have hE : ruleE ⟨n, p, [], a0 :: al⟩ = 1 ∧ ruleX ⟨n, p, [], a0 :: al⟩ = [] := by unfold ruleX ruleE; rw [hxk]; exact ⟨rfl, rfl⟩
    have hc2 := rcheck_good ⟨n, p, [], a0 :: al⟩ hxB
    rw [hxk, if_neg (by simp)] at hc2
    refine call0 (rtext_good ⟨n, p, [], a0 :: al⟩ hxB) ?_
    rw [hE.1, hE.2]
    conv => whnf
    refine call0 (hck) ?_
    conv => whnf
    refine call0 (hc2) ?_
    conv => whnf
    refine call0 (wakes11_good) ?_
    conv => whnf
    exact fin0 rfl trivial
  · conv => whnf
    have hxk : ruleOk ⟨n, p, c0 :: cs, []⟩ = false := by
      cases hq : ruleOk ⟨n, p, c0 :: cs, []⟩ with
      | false => rfl
      | true =>
        obtain ⟨q1, q2, q3, q4, q5, q6, q7, q8, q9, q10⟩ := ruleOk_all hq
        exfalso
        simp at q7
    have hxB : rulB ⟨n, p, c0 :: cs, []⟩ := ⟨b1, b2, b3, Nat.zero_le _, fun x hx => absurd hx List.not_mem_nil⟩
    have hE : ruleE ⟨n, p, c0 :: cs, []⟩ = 1 ∧ ruleX ⟨n, p, c0 :: cs, []⟩ = [] := by unfold ruleX ruleE; rw [hxk]; exact ⟨rfl, rfl⟩
    have hc2 := rcheck_good ⟨n, p, c0 :: cs, []⟩ hxB
    rw [hxk, if_neg (by simp)] at hc2
    refine call0 (rtext_good ⟨n, p, c0 :: cs, []⟩ hxB) ?_
    rw [hE.1, hE.2]
    conv => whnf
    refine call0 (hck) ?_
    conv => whnf
    refine call0 (hc2) ?_
    conv => whnf
    refine call0 (wakes11_good) ?_
    conv => whnf
    exact fin0 rfl trivial
  · conv => whnf
    refine ⟨⟨⟩, ⟨by omega, by rw [List.length_map, List.length_cons]; omega⟩, ?_⟩
    conv => whnf
    refine ⟨Cnd.c c0, rfl, ?_⟩
    conv => whnf
    have B0 : cndB ⟨2, c0.a, c0.h, c0.l, c0.r⟩ := b3 c0 (by simp)
    have hxk : ruleOk ⟨n, p, ⟨2, c0.a, c0.h, c0.l, c0.r⟩ :: cs, a0 :: al⟩ = false := by
      cases hq : ruleOk ⟨n, p, ⟨2, c0.a, c0.h, c0.l, c0.r⟩ :: cs, a0 :: al⟩ with
      | false => rfl
      | true =>
        obtain ⟨q1, q2, q3, q4, q5, q6, q7, q8, q9, q10⟩ := ruleOk_all hq
        exfalso
        simp [headK] at q6
    have hxB : rulB ⟨n, p, ⟨2, c0.a, c0.h, c0.l, c0.r⟩ :: cs, a0 :: al⟩ := ⟨b1, b2, fun x hx => by
        rcases List.mem_cons.1 hx with rfl | hx
        · exact B0
        · exact b3 x (by simp [hx]), b4, b5⟩
    have hE : ruleE ⟨n, p, ⟨2, c0.a, c0.h, c0.l, c0.r⟩ :: cs, a0 :: al⟩ = 1 ∧ ruleX ⟨n, p, ⟨2, c0.a, c0.h, c0.l, c0.r⟩ :: cs, a0 :: al⟩ = [] := by unfold ruleX ruleE; rw [hxk]; exact ⟨rfl, rfl⟩
    have hc2 := rcheck_good ⟨n, p, ⟨2, c0.a, c0.h, c0.l, c0.r⟩ :: cs, a0 :: al⟩ hxB
    rw [hxk, if_neg (by simp)] at hc2
    refine call0 (rtext_good ⟨n, p, ⟨2, c0.a, c0.h, c0.l, c0.r⟩ :: cs, a0 :: al⟩ hxB) ?_
    rw [hE.1, hE.2]
    conv => whnf
    refine call0 (hck) ?_
    conv => whnf
    refine call0 (hc2) ?_
    conv => whnf
    refine call0 (wakes11_good) ?_
    conv => whnf
    exact fin0 rfl trivial
  · conv => whnf
    have hxk : ruleOk ⟨n, 1001, c0 :: cs, a0 :: al⟩ = false := by
      cases hq : ruleOk ⟨n, 1001, c0 :: cs, a0 :: al⟩ with
      | false => rfl
      | true =>
        obtain ⟨q1, q2, q3, q4, q5, q6, q7, q8, q9, q10⟩ := ruleOk_all hq
        exfalso
        dsimp only at q3; omega
    have hxB : rulB ⟨n, 1001, c0 :: cs, a0 :: al⟩ := ⟨b1, b2, b3, b4, b5⟩
    have hE : ruleE ⟨n, 1001, c0 :: cs, a0 :: al⟩ = 1 ∧ ruleX ⟨n, 1001, c0 :: cs, a0 :: al⟩ = [] := by unfold ruleX ruleE; rw [hxk]; exact ⟨rfl, rfl⟩
    have hc2 := rcheck_good ⟨n, 1001, c0 :: cs, a0 :: al⟩ hxB
    rw [hxk, if_neg (by simp)] at hc2
    refine call0 (rtext_good ⟨n, 1001, c0 :: cs, a0 :: al⟩ hxB) ?_
    rw [hE.1, hE.2]
    conv => whnf
    refine call0 (hck) ?_
    conv => whnf
    refine call0 (hc2) ?_
    conv => whnf
    refine call0 (wakes11_good) ?_
    conv => whnf
    exact fin0 rfl trivial
  · conv => whnf
    have hw4 : IntKind.i64.wrap (((actV (a0 :: al)).length : Int) - 1) = ((al.length : Nat) : Int) := by
      rw [List.length_map, List.length_cons] at *
      rw [wr (by omega) (by omega)]; omega
    rw [hw4]
    refine ⟨⟨⟩, ⟨by omega, by rw [List.length_map, List.length_cons]; omega⟩, ?_⟩
    conv => whnf
    refine ⟨⟨⟩, by dsimp only; simp only [List.length_map, List.length_take, List.length_cons, List.length_nil]; simp only [List.length_cons] at b4; omega, ?_⟩
    conv => whnf
    rw [show (actV (a0 :: al)).take ((al.length : Nat) : Int).toNat = actV ((a0 :: al).take al.length) from by rw [Int.toNat_natCast, ← List.map_take]]
    have hxk : ruleOk ⟨n, p, c0 :: cs, (a0 :: al).take al.length ++ [⟨2, [], [], 6⟩]⟩ = false := by
      cases hq : ruleOk ⟨n, p, c0 :: cs, (a0 :: al).take al.length ++ [⟨2, [], [], 6⟩]⟩ with
      | false => rfl
      | true =>
        obtain ⟨q1, q2, q3, q4, q5, q6, q7, q8, q9, q10⟩ := ruleOk_all hq
        exfalso
        have q := q10 ⟨2, [], [], 6⟩ (by simp)
        have w := (actOk_2 q rfl).2.2.2
        have hn : hasN (c0 :: cs) ≤ (c0 :: cs).length := hasN_le _
        dsimp only at w; omega
    have hxB : rulB ⟨n, p, c0 :: cs, (a0 :: al).take al.length ++ [⟨2, [], [], 6⟩]⟩ := ⟨b1, b2, b3, by show ((a0 :: al).take al.length ++ [_]).length ≤ _; have b4' : al.length + 1 ≤ 1000000 := b4; simp only [List.length_append, List.length_take, List.length_cons, List.length_nil]; omega, fun x hx => by
        rcases List.mem_append.1 hx with hx | hx
        · exact b5 x (List.mem_of_mem_take hx)
        · rw [List.mem_singleton.1 hx]; exact ⟨Nat.zero_le _, Nat.zero_le _, fun l hl => absurd hl List.not_mem_nil⟩⟩
    have hE : ruleE ⟨n, p, c0 :: cs, (a0 :: al).take al.length ++ [⟨2, [], [], 6⟩]⟩ = 1 ∧ ruleX ⟨n, p, c0 :: cs, (a0 :: al).take al.length ++ [⟨2, [], [], 6⟩]⟩ = [] := by unfold ruleX ruleE; rw [hxk]; exact ⟨rfl, rfl⟩
    obtain ⟨r1, r2, r3⟩ := rows_ok ((a0 :: al).take al.length) ⟨2, [], [], 6⟩ rfl hxB.2.2.2.2
    have hc2 := rcheck_raw ⟨n, p, c0 :: cs, (a0 :: al).take al.length ++ [⟨2, [], [], 6⟩]⟩ hxB _ r1 r2 r3
    rw [hxk, if_neg (by simp)] at hc2
    refine call0 (rtext_raw ⟨n, p, c0 :: cs, (a0 :: al).take al.length ++ [⟨2, [], [], 6⟩]⟩ hxB _ r1 r2 r3 hxk) ?_
    conv => whnf
    refine call0 (hck) ?_
    conv => whnf
    refine call0 (hc2) ?_
    conv => whnf
    refine call0 (wakes11_good) ?_
    conv => whnf
    exact fin0 rfl trivial
  · conv => whnf
    refine ⟨⟨⟩, ⟨by omega, by rw [List.length_map, List.length_cons]; omega⟩, ?_⟩
    conv => whnf
    refine ⟨Act.c a0, rfl, ?_⟩
    conv => whnf
    have B0 : actB ⟨3, a0.n, a0.a, a0.w⟩ := b5 a0 (by simp)
    have hxk : ruleOk ⟨n, p, c0 :: cs, ⟨3, a0.n, a0.a, a0.w⟩ :: al⟩ = false := by
      cases hq : ruleOk ⟨n, p, c0 :: cs, ⟨3, a0.n, a0.a, a0.w⟩ :: al⟩ with
      | false => rfl
      | true =>
        obtain ⟨q1, q2, q3, q4, q5, q6, q7, q8, q9, q10⟩ := ruleOk_all hq
        exfalso
        have q := q10 ⟨3, a0.n, a0.a, a0.w⟩ (by simp)
        simp [actOk] at q
    have hxB : rulB ⟨n, p, c0 :: cs, ⟨3, a0.n, a0.a, a0.w⟩ :: al⟩ := ⟨b1, b2, b3, b4, fun x hx => by
        rcases List.mem_cons.1 hx with rfl | hx
        · exact B0
        · exact b5 x (by simp [hx])⟩
    have hE : ruleE ⟨n, p, c0 :: cs, ⟨3, a0.n, a0.a, a0.w⟩ :: al⟩ = 1 ∧ ruleX ⟨n, p, c0 :: cs, ⟨3, a0.n, a0.a, a0.w⟩ :: al⟩ = [] := by unfold ruleX ruleE; rw [hxk]; exact ⟨rfl, rfl⟩
    have hc2 := rcheck_good ⟨n, p, c0 :: cs, ⟨3, a0.n, a0.a, a0.w⟩ :: al⟩ hxB
    rw [hxk, if_neg (by simp)] at hc2
    refine call0 (rtext_good ⟨n, p, c0 :: cs, ⟨3, a0.n, a0.a, a0.w⟩ :: al⟩ hxB) ?_
    rw [hE.1, hE.2]
    conv => whnf
    refine call0 (hck) ?_
    conv => whnf
    refine call0 (hc2) ?_
    conv => whnf
    refine call0 (wakes11_good) ?_
    conv => whnf
    exact fin0 rfl trivial
  · conv => whnf
    refine ⟨⟨⟩, ⟨by omega, by rw [List.length_map, List.length_cons]; omega⟩, ?_⟩
    conv => whnf
    refine ⟨Cnd.c c0, rfl, ?_⟩
    conv => whnf
    have B0 : cndB ⟨c0.k, c0.a, 1, c0.l, c0.r⟩ := b3 c0 (by simp)
    have hxk : ruleOk ⟨n, p, ⟨c0.k, c0.a, 1, c0.l, c0.r⟩ :: cs, a0 :: al⟩ = false := by
      cases hq : ruleOk ⟨n, p, ⟨c0.k, c0.a, 1, c0.l, c0.r⟩ :: cs, a0 :: al⟩ with
      | false => rfl
      | true =>
        obtain ⟨q1, q2, q3, q4, q5, q6, q7, q8, q9, q10⟩ := ruleOk_all hq
        exfalso
        have q := q9 ⟨c0.k, c0.a, 1, c0.l, c0.r⟩ (by simp)
        have hk0 : c0.k = 1 := h6
        have w := (condOk_n q (by dsimp only; omega)).2.1
        simp at w
    have hxB : rulB ⟨n, p, ⟨c0.k, c0.a, 1, c0.l, c0.r⟩ :: cs, a0 :: al⟩ := ⟨b1, b2, fun x hx => by
        rcases List.mem_cons.1 hx with rfl | hx
        · exact B0
        · exact b3 x (by simp [hx]), b4, b5⟩
    have hE : ruleE ⟨n, p, ⟨c0.k, c0.a, 1, c0.l, c0.r⟩ :: cs, a0 :: al⟩ = 1 ∧ ruleX ⟨n, p, ⟨c0.k, c0.a, 1, c0.l, c0.r⟩ :: cs, a0 :: al⟩ = [] := by unfold ruleX ruleE; rw [hxk]; exact ⟨rfl, rfl⟩
    have hc2 := rcheck_good ⟨n, p, ⟨c0.k, c0.a, 1, c0.l, c0.r⟩ :: cs, a0 :: al⟩ hxB
    rw [hxk, if_neg (by simp)] at hc2
    refine call0 (rtext_good ⟨n, p, ⟨c0.k, c0.a, 1, c0.l, c0.r⟩ :: cs, a0 :: al⟩ hxB) ?_
    rw [hE.1, hE.2]
    conv => whnf
    refine call0 (hck) ?_
    conv => whnf
    refine call0 (hc2) ?_
    conv => whnf
    refine call0 (wakes11_good) ?_
    conv => whnf
    exact fin0 rfl trivial
  · conv => whnf
    have hxk : ruleOk ⟨[114, 117, 108, 101], p, c0 :: cs, a0 :: al⟩ = false := by
      cases hq : ruleOk ⟨[114, 117, 108, 101], p, c0 :: cs, a0 :: al⟩ with
      | false => rfl
      | true =>
        obtain ⟨q1, q2, q3, q4, q5, q6, q7, q8, q9, q10⟩ := ruleOk_all hq
        exfalso
        exact absurd (show nameS [114, 117, 108, 101] = true from q1) (by decide +kernel)
    have hxB : rulB ⟨[114, 117, 108, 101], p, c0 :: cs, a0 :: al⟩ := ⟨by show (4 : Nat) ≤ 1000000; omega, b2, b3, b4, b5⟩
    have hE : ruleE ⟨[114, 117, 108, 101], p, c0 :: cs, a0 :: al⟩ = 1 ∧ ruleX ⟨[114, 117, 108, 101], p, c0 :: cs, a0 :: al⟩ = [] := by unfold ruleX ruleE; rw [hxk]; exact ⟨rfl, rfl⟩
    have hc2 := rcheck_good ⟨[114, 117, 108, 101], p, c0 :: cs, a0 :: al⟩ hxB
    rw [hxk, if_neg (by simp)] at hc2
    refine call0 (rtext_good ⟨[114, 117, 108, 101], p, c0 :: cs, a0 :: al⟩ hxB) ?_
    rw [hE.1, hE.2]
    conv => whnf
    refine call0 (hck) ?_
    conv => whnf
    refine call0 (hc2) ?_
    conv => whnf
    refine call0 (wakes11_good) ?_
    conv => whnf
    exact fin0 rfl trivial
end Go.PV
namespace Go.PV
open Go Go.RowKit
/-! an argument that can be read as data, as plain data -/
def cel (w : World) (b o : Nat) (u : Value) : Prop := w.cell? ⟨b, o, none⟩ = some u
def CellsW (w : World) (l : List V) (cs : List Value) : Prop := cs.length = l.length ∧ ∀ (j : Nat) (p : V), l[j]? = some p → ∃ u, cs[j]? = some u ∧ Sh (cel w) p u
theorem CellsW.one {w : World} {p : V} {u : Value} (h : Sh (cel w) p u) : CellsW w [p] [u] := ⟨rfl, fun j q hj => by
  cases j with
  | zero => simp at hj; subst hj; exact ⟨u, rfl, h⟩
  | succ j => simp at hj⟩
theorem CellsW.append {w : World} {l m : List V} {cs ds : List Value} (h : CellsW w l cs) (k : CellsW w m ds) : CellsW w (l ++ m) (cs ++ ds) := ⟨by simp [h.1, k.1], fun j p hj => by
  rcases Nat.lt_or_ge j l.length with hl | hl
  · rw [List.getElem?_append_left hl] at hj
    rw [List.getElem?_append_left (by rw [h.1]; exact hl)]; exact h.2 j p hj
  · rw [List.getElem?_append_right hl] at hj
    rw [List.getElem?_append_right (by rw [h.1]; exact hl), h.1]; exact k.2 _ p hj⟩
structure OpensV {α : Type} (n : Nat) (c : α → List V) (P : Program) (t : TypeId) (ok : α → Prop) : Prop where
  cells : P.cellsOf t = n
  len : ∀ v, (c v).length = n
  opens : ∀ {H : Type} {enc : TypeId × Value → H} {w : World} {base : Nat} {spare : Nat → Bool} {held : Bool} {fuel : Nat} {cs : List Value} {x : DataW H × List MemPlace},
    DataW.trod enc P w base spare held fuel t cs = some x → ∃ v, CellsW w (c v) cs ∧ ok v
section
variable {P : Program} {t : TypeId}
theorem OpensV.mono {α : Type} {n : Nat} {c : α → List V} {ok ok' : α → Prop} (h : OpensV n c P t ok) (hm : ∀ v, ok v → ok' v) : OpensV n c P t ok' :=
  ⟨h.cells, h.len, fun hx => by obtain ⟨v, h1, h2⟩ := h.opens hx; exact ⟨v, h1, hm v h2⟩⟩
theorem OpensV.int {k : IntKind} (hu : P.underlying t = some (.int k)) (hc : P.cellsOf t = 1) : OpensV 1 (fun n => [.int k n]) P t (fun n => (Lit.int k n).wf = true) :=
  ⟨hc, fun _ => rfl, fun hx => by obtain ⟨m, rfl, rfl, hw⟩ := DataW.trod_int hu hx; exact ⟨m, .one (.int _ _), hw⟩⟩
theorem OpensV.string (hu : P.underlying t = some .string) (hc : P.cellsOf t = 1) : OpensV 1 (fun s : List UInt8 => [.str s]) P t (fun s => s.length ≤ maxLen) :=
  ⟨hc, fun _ => rfl, fun hx => by obtain ⟨s, rfl, _, hw⟩ := DataW.trod_string hu hx; exact ⟨s.data.toList, .one (.str _), hw⟩⟩
theorem OpensV.bool (hu : P.underlying t = some .bool) (hc : P.cellsOf t = 1) : OpensV 1 (fun b => [.bool b]) P t (fun _ => True) :=
  ⟨hc, fun _ => rfl, fun hx => by obtain ⟨b, rfl, _⟩ := DataW.trod_bool hu hx; exact ⟨b, .one (.bool _), trivial⟩⟩
theorem OpensV.iso {α β : Type} {n : Nat} {c : α → List V} {ok : α → Prop} {f : β → α} (g : α → β) (hg : ∀ a, f (g a) = a) (h : OpensV n c P t ok) : OpensV n (fun b => c (f b)) P t (fun b => ok (f b)) :=
  ⟨h.cells, fun b => h.len (f b), fun hx => by
    obtain ⟨v, h1, h2⟩ := h.opens hx
    exact ⟨g v, by rw [hg]; exact h1, by rw [hg]; exact h2⟩⟩
/-- fields that lie side by side from off on -/
structure OpensVs {α : Type} (n : Nat) (c : α → List V) (P : Program) (fs : List Field) (off : Nat) (ok : α → Prop) : Prop where
  len : ∀ v, (c v).length = n
  opens : ∀ {H : Type} {enc : TypeId × Value → H} {w : World} {base : Nat} {spare : Nat → Bool} {held : Bool} {fuel : Nat} {cs : List Value},
    off + n = cs.length → (∀ (i : Nat) (f : Field), fs[i]? = some f → ∃ x, DataW.trod enc P w base spare held fuel f.type ((cs.drop f.offset).take (P.cellsOf f.type)) = some x) → ∃ v, CellsW w (c v) (cs.drop off) ∧ ok v
theorem OpensVs.one {α : Type} {n : Nat} {c : α → List V} {f : Field} {off : Nat} {ok : α → Prop} (ho : f.offset = off) (h : OpensV n c P f.type ok) : OpensVs n c P [f] off ok := by
  refine ⟨h.len, ?_⟩
  intro H enc w base spare held fuel cs hl hx
  obtain ⟨x, hx⟩ := hx 0 f rfl
  rw [ho, h.cells, List.take_of_length_le (by simp; omega)] at hx
  exact h.opens hx
theorem OpensVs.cons {α β : Type} {n m : Nat} {c : α → List V} {d : β → List V} {f : Field} {fs : List Field} {off : Nat} {ok : α → Prop} {ok' : β → Prop} (ho : f.offset = off) (h : OpensV n c P f.type ok) (h' : OpensVs m d P fs (off + n) ok') :
    OpensVs (n + m) (fun v : α × β => c v.1 ++ d v.2) P (f :: fs) off (fun v => ok v.1 ∧ ok' v.2) := by
  refine ⟨fun v => by rw [List.length_append, h.len, h'.len], ?_⟩
  intro H enc w base spare held fuel cs hl hx
  obtain ⟨x, hx0⟩ := hx 0 f rfl
  rw [ho, h.cells] at hx0
  obtain ⟨v, hv, ov⟩ := h.opens hx0
  obtain ⟨u, hu, ou⟩ := h'.opens (cs := cs) (by omega) (fun i g hg => hx (i + 1) g hg)
  refine ⟨(v, u), ?_, ov, ou⟩
  have := hv.append hu
  rwa [← List.drop_drop, List.take_append_drop] at this
theorem OpensV.struct {α : Type} {n : Nat} {c : α → List V} {fs : Array Field} {ok : α → Prop} (hu : P.underlying t = some (.struct fs)) (hc : P.cellsOf t = n) (h : OpensVs n c P fs.toList 0 ok) : OpensV n c P t ok := by
  refine ⟨hc, h.len, ?_⟩
  intro H enc w base spare held fuel cs x hx
  obtain ⟨xs, n, rfl, _, hl, hxl, hf⟩ := DataW.trod_struct hu hx
  have := h.opens (cs := cs) (enc := enc) (w := w) (base := base) (spare := spare) (held := held) (fuel := n) (by omega) (by
    intro i f hi
    have hi' : fs[i]? = some f := by simpa using hi
    have hlt : i < xs.length := by
      rw [hxl]
      exact (Array.getElem?_eq_some_iff.1 hi').1
    exact ⟨xs[i], by rw [hf i f hi', List.getElem?_eq_getElem hlt]⟩)
  simpa using this
theorem list_of {α : Type} {Q : Nat → α → Prop} : ∀ n : Nat, (∀ i, i < n → ∃ v, Q i v) → ∃ l : List α, l.length = n ∧ ∀ i v, l[i]? = some v → Q i v := by
  intro n
  induction n with
  | zero => intro _; exact ⟨[], rfl, fun i v h => by simp at h⟩
  | succ n ih =>
    intro h
    obtain ⟨l, hl, hq⟩ := ih (fun i hi => h i (by omega))
    obtain ⟨v, hv⟩ := h n (by omega)
    refine ⟨l ++ [v], by simp [hl], ?_⟩
    intro i u hu
    by_cases hi : i < l.length
    · rw [List.getElem?_append_left hi] at hu
      exact hq i u hu
    · rw [List.getElem?_append_right (by omega)] at hu
      have h0 : i - l.length = 0 := by
        by_cases h0 : i - l.length = 0
        · exact h0
        · rw [List.getElem?_eq_none (by simp; omega)] at hu; cases hu
      rw [h0] at hu
      simp at hu
      subst hu
      have : i = n := by omega
      subst this
      exact hv
theorem cell_spot {w : World} {a : Addr} {u : Value} (h : w.cell? a = some u) : a.spot = none := by
  unfold World.cell? at h
  split at h
  · cases hs : a.spot with
    | none => rfl
    | some s => rw [hs] at h; simp at h
  · cases h
/-- a slice that is read as data -/
theorem OpensV.row {α : Type} {n : Nat} {c : α → List V} {e : TypeId} {ok : α → Prop} (h : OpensV n c P e ok) (h0 : 0 < n) (hu : P.underlying t = some (.slice e))
    {H : Type} {enc : TypeId × Value → H} {w : World} {base : Nat} {spare : Nat → Bool} {held : Bool} {fuel : Nat} {cs : List Value} {x : DataW H × List MemPlace}
    (hx : DataW.trod enc P w base spare held fuel t cs = some x) : ∃ (l : List α) (A : Option Addr) (cap : Nat), cs = [.slice A l.length cap] ∧ Sh (cel w) (.sl n (l.map c)) (.slice A l.length cap) ∧ l.length ≤ cap ∧ cap ≤ maxLen ∧ ∀ v ∈ l, ok v := by
  rcases DataW.trod_slice hu hx with ⟨hcs, _⟩ | ⟨a, len, cap, elems, rest, m, rfl, hcs, _, hb, hl, hm, hlen, hel, _⟩
  · exact ⟨[], none, 0, hcs, .sl0 _ _ _, Nat.le_refl _, by unfold maxLen; omega, fun v hv => by simp at hv⟩
  · obtain ⟨l, hll, hq⟩ := list_of (Q := fun i v => ∃ cs, w.cells? base (a.add (i * P.cellsOf e)) (P.cellsOf e) = some cs ∧ CellsW w (c v) cs ∧ ok v) len (by
      intro i hi
      have h1 := hel i hi
      rw [List.getElem?_eq_getElem (by omega), Option.bind_eq_some_iff] at h1
      obtain ⟨cs, h2, h3⟩ := h1
      obtain ⟨v, h4, h5⟩ := h.opens h3
      exact ⟨v, cs, h2, h4, h5⟩)
    have hok : ∀ v ∈ l, ok v := by
      intro v hv
      obtain ⟨i, hi⟩ := List.getElem?_of_mem hv
      obtain ⟨_, _, _, h5⟩ := hq i v hi
      exact h5
    refine ⟨l, some a, cap, by rw [hll]; exact hcs, ?_, by omega, hm, hok⟩
    by_cases hz : l = []
    · subst hz; exact .sl0 _ _ _
    have at_ : ∀ (i : Nat) (v : α) (j : Nat) (p : V), l[i]? = some v → (c v)[j]? = some p → ∃ u, w.cell? ((a.add (i * n)).add j) = some u ∧ Sh (cel w) p u := by
      intro i v j p hi hj
      obtain ⟨cs, h2, h4, _⟩ := hq i v hi
      obtain ⟨_, h6, h7⟩ := World.cells?_some h2
      obtain ⟨u, h8, h9⟩ := h4.2 j p hj
      have hlt : j < P.cellsOf e := by rw [← h6]; exact (List.getElem?_eq_some_iff.1 h8).1
      have h10 := h7 j hlt
      rw [h.cells, h8] at h10
      exact ⟨u, h10, h9⟩
    have hsp : a.spot = none := by
      obtain ⟨v, r, rfl⟩ := List.exists_cons_of_ne_nil hz
      have h1 : 0 < (c v).length := by rw [h.len]; exact h0
      obtain ⟨u, h2, _⟩ := at_ 0 v 0 _ rfl (List.getElem?_eq_getElem h1)
      have := cell_spot h2
      simpa [Addr.add] using this
    obtain ⟨b, off, sp⟩ := a
    simp only at hsp
    subst hsp
    have hadd : ∀ i j : Nat, ((⟨b, off, none⟩ : Addr).add (i * n)).add j = ⟨b, off + i * n + j, none⟩ := fun i j => by
      rw [Addr.add_none, Addr.add_none]
    have hml : (l.map c).length = l.length := List.length_map _
    rw [← hml]
    refine .sl n (l.map c) b off cap (fun i j => (w.cell? ⟨b, off + i * n + j, none⟩).getD undef) h0 (fun i x hx => ?_) (by rw [hml]; omega) (fun i x j p hx hj => ?_) (fun i x j p hx hj => ?_)
    · rw [List.getElem?_map, Option.map_eq_some_iff] at hx
      obtain ⟨v, _, rfl⟩ := hx; exact h.len v
    · rw [List.getElem?_map, Option.map_eq_some_iff] at hx
      obtain ⟨v, hi, rfl⟩ := hx
      obtain ⟨u, h2, _⟩ := at_ i v j p hi hj
      rw [hadd] at h2
      show w.cell? _ = _
      rw [h2]; rfl
    · rw [List.getElem?_map, Option.map_eq_some_iff] at hx
      obtain ⟨v, hi, rfl⟩ := hx
      obtain ⟨u, h2, h3⟩ := at_ i v j p hi hj
      rw [hadd] at h2
      rw [h2]; exact h3
theorem OpensV.slice {α : Type} {n : Nat} {c : α → List V} {e : TypeId} {ok : α → Prop} (h : OpensV n c P e ok) (h0 : 0 < n) (hu : P.underlying t = some (.slice e)) (hc : P.cellsOf t = 1) : OpensV 1 (fun l : List α => [.sl n (l.map c)]) P t (fun l => l.length ≤ maxLen ∧ ∀ v ∈ l, ok v) :=
  ⟨hc, fun _ => rfl, fun hx => by
    obtain ⟨l, A, cap, rfl, h2, h3, h4, h5⟩ := h.row h0 hu hx
    exact ⟨l, .one h2, Nat.le_trans h3 h4, h5⟩⟩
/-- an argument that is a slice -/
theorem OpensV.arg {α : Type} {n : Nat} {c : α → List V} {e : TypeId} {ok : α → Prop} (h : OpensV n c P e ok) (h0 : 0 < n) (hu : P.underlying t = some (.slice e))
    {H : Type} {enc : TypeId × Value → H} {w : World} {r : Reach} {base b0 : Nat} {spare : Nat → Bool} {held : Bool} {v : Value} {x : DataW H} {ps : List MemPlace}
    (hv : Value.okWide P w r b0 t v) (hx : DataW.Trod enc P w base spare held t v x ps) : ∃ l : List α, Sh (cel w) (.sl n (l.map c)) v ∧ l.length ≤ maxLen ∧ ∀ v ∈ l, ok v := by
  obtain ⟨a, len, cap, rfl⟩ := Go.WideShapes.okWide_slice hu hv
  obtain ⟨fuel, hf⟩ := hx
  have hf' : DataW.trod enc P w base spare held fuel t [.slice a len cap] = some (x, ps) := hf
  obtain ⟨l, A, cp, h1, h2, h3, h4, h5⟩ := h.row h0 hu hf'
  cases h1
  exact ⟨l, h2, Nat.le_trans h3 h4, h5⟩
/-- an argument that is a struct -/
theorem OpensV.agg {α : Type} {n : Nat} {c : α → List V} {ok : α → Prop} (h : OpensV n c P t ok) {fs : Array Field} (hu : P.underlying t = some (.struct fs))
    {H : Type} {enc : TypeId × Value → H} {w : World} {r : Reach} {base b0 : Nat} {spare : Nat → Bool} {held : Bool} {v : Value} {x : DataW H} {ps : List MemPlace}
    (hv : Value.okWide P w r b0 t v) (hx : DataW.Trod enc P w base spare held t v x ps) : ∃ u cs, v = .agg ⟨cs⟩ ∧ CellsW w (c u) cs ∧ ok u := by
  obtain ⟨cs, rfl, _⟩ := Go.WideShapes.okWide_struct hu hv
  obtain ⟨fuel, hf⟩ := hx
  obtain ⟨u, h1, h2⟩ := h.opens hf
  exact ⟨u, cs.toList, rfl, h1, h2⟩
end
/-- what nothing owns -/
def G0 : Gh := { own := fun _ => ⟨none, none⟩, blk := fun _ => 0, cap := fun _ => 0, isnil := fun _ => false }
theorem sh0 {w : World} {p : V} {v : Value} (h : Sh (cel w) p v) : Sh (stab G0 w) p v := h.mono fun b o c hc => ⟨fun l hl => (by cases hl), hc⟩
theorem ra0 {w : World} {O : Tb} {p : V} {v : Value} (h : Sh (cel w) p v) : RA G0 w O p v := .cell _ _ (.sh _ _ (sh0 h))
theorem raAgg {w : World} {O : Tb} {l : List V} {cs : List Value} (h : CellsW w l cs) : RA G0 w O (.agg l) (.agg ⟨cs⟩) :=
  .agg _ _ ⟨by simpa using h.1, fun j p hj => by obtain ⟨u, h1, h2⟩ := h.2 j p hj; exact ⟨u, by simpa using h1, .sh _ _ (sh0 h2)⟩⟩
/-- pair by pair -/
inductive Each (R : V → Value → Prop) : List V → List Value → Prop
  | nil : Each R [] []
  | cons {p v ps vs} (h : R p v) (k : Each R ps vs) : Each R (p :: ps) (v :: vs)
theorem cellsOf {R : V → Value → Prop} : ∀ {ps : List V} {vs : List Value}, Each R ps vs → Cells R ps ⟨vs⟩
  | [], [], _ => ⟨rfl, fun j p hj => by simp at hj⟩
  | p :: ps, v :: vs, .cons h1 h2 => by
    have ih := cellsOf h2
    refine ⟨by have := ih.1; simp at this ⊢; omega, fun j q hj => ?_⟩
    cases j with
    | zero => simp at hj; subst hj; exact ⟨v, rfl, h1⟩
    | succ j => obtain ⟨c, h3, h4⟩ := ih.2 j q (by simpa using hj); exact ⟨c, by simpa using h3, h4⟩
/-- a law's call -/
theorem law_calls {P : Program} [Env P] {f : FuncId} {args : List V} {vs : List Value} {w : World} (h : Good P f args [] [.bool true] []) (hc : Each (RA G0 w (tbl [])) args vs) (hn : Env.ng P ≤ w.heap.size) (hz : Env.Z P w) :
    Calls P f ⟨vs⟩ w fun e w' => e = .returned (.bool true) ∧ Below w.heap.size w w' :=
  (h.run ⟨vs⟩ w G0 (cellsOf hc) (fun k o hk => by simp at hk) (fun k hk => ⟨by omega, rfl⟩) hz).mono fun e w' hh => by
    obtain ⟨rv, G', h1, h2, _, h3⟩ := hh
    refine ⟨?_, ⟨h3.sys, h3.tape, h3.output, h3.size, fun k hk => (h3.im k hk rfl).2⟩⟩
    rw [h1]
    cases (show RA G' w' (tbl []) (.bool true) rv from h2).bool_eq
    rfl
end Go.PV
namespace Go.PV
open Go Go.RowKit Go.Proofs
/-! what is known of arguments of these types -/
def ok9 : List UInt8 → Prop := fun s : List UInt8 => s.length ≤ maxLen
abbrev c9 : List UInt8 → List V := fun s => [.str s]
theorem o9 : OpensV 1 c9 Tryz.prog 9 ok9 := OpensV.string Tryz.underlying9 (by kernel_rfl)
def ok3 : Int → Prop := fun n : Int => (Lit.int .i64 n).wf = true
abbrev c3 : Int → List V := fun n => [.int .i64 n]
theorem o3 : OpensV 1 c3 Tryz.prog 3 ok3 := OpensV.int Tryz.underlying3 (by kernel_rfl)
theorem t129 : OpensV 3 (fun v : Int × Int × List UInt8 => c3 v.1 ++ (c3 v.2.1 ++ (c9 v.2.2))) Tryz.prog 129 (fun v => ok3 v.1 ∧ ok3 v.2.1 ∧ ok9 v.2.2) := by
  refine OpensV.struct Tryz.underlying129 (by kernel_rfl) ?_
  refine OpensVs.cons (n := 1) (m := 2) (c := c3) (d := fun w : Int × List UInt8 => c3 w.1 ++ (c9 w.2)) (ok := ok3) (ok' := fun w : Int × List UInt8 => ok3 w.1 ∧ ok9 w.2) rfl o3 ?_
  refine OpensVs.cons (n := 1) (m := 1) (c := c3) (d := fun w : List UInt8 => c9 w) (ok := ok3) (ok' := fun w : List UInt8 => ok9 w) rfl o3 ?_
  exact OpensVs.one (c := c9) (ok := ok9) rfl o9
def ok129 : Val → Prop := fun x => let v := ((fun v => (v.k, v.n, v.s) : Val → (Int × Int × List UInt8))) x; ok3 v.1 ∧ ok3 v.2.1 ∧ ok9 v.2.2
abbrev c129 : Val → List V := fun x => let v := ((fun v => (v.k, v.n, v.s) : Val → (Int × Int × List UInt8))) x; c3 v.1 ++ (c3 v.2.1 ++ (c9 v.2.2))
theorem o129 : OpensV 3 c129 Tryz.prog 129 ok129 := OpensV.iso (f := (fun v => (v.k, v.n, v.s) : Val → (Int × Int × List UInt8))) ((fun a => ⟨a.1, a.2.1, a.2.2⟩ : (Int × Int × List UInt8) → Val)) (fun _ => rfl) t129
theorem t131 : OpensV 4 (fun v : List UInt8 × Val => c9 v.1 ++ (c129 v.2)) Tryz.prog 131 (fun v => ok9 v.1 ∧ ok129 v.2) := by
  refine OpensV.struct Tryz.underlying131 (by kernel_rfl) ?_
  refine OpensVs.cons (n := 1) (m := 3) (c := c9) (d := fun w : Val => c129 w) (ok := ok9) (ok' := fun w : Val => ok129 w) rfl o9 ?_
  exact OpensVs.one (c := c129) (ok := ok129) rfl o129
def ok131 : Trm → Prop := fun x => let v := ((fun v => (v.v, v.x) : Trm → (List UInt8 × Val))) x; ok9 v.1 ∧ ok129 v.2
abbrev c131 : Trm → List V := fun x => let v := ((fun v => (v.v, v.x) : Trm → (List UInt8 × Val))) x; c9 v.1 ++ (c129 v.2)
theorem o131 : OpensV 4 c131 Tryz.prog 131 ok131 := OpensV.iso (f := (fun v => (v.v, v.x) : Trm → (List UInt8 × Val))) ((fun a => ⟨a.1, a.2⟩ : (List UInt8 × Val) → Trm)) (fun _ => rfl) t131
def ok46 : List (Trm) → Prop := fun l => l.length ≤ maxLen ∧ ∀ v ∈ l, ok131 v
abbrev c46 : List (Trm) → List V := fun l => [.sl 4 (l.map c131)]
theorem o46 : OpensV 1 c46 Tryz.prog 46 ok46 := OpensV.slice o131 (by decide) Tryz.underlying46 (by kernel_rfl)
theorem t48 : OpensV 2 (fun v : List UInt8 × List (Trm) => c9 v.1 ++ (c46 v.2)) Tryz.prog 48 (fun v => ok9 v.1 ∧ ok46 v.2) := by
  refine OpensV.struct Tryz.underlying48 (by kernel_rfl) ?_
  refine OpensVs.cons (n := 1) (m := 1) (c := c9) (d := fun w : List (Trm) => c46 w) (ok := ok9) (ok' := fun w : List (Trm) => ok46 w) rfl o9 ?_
  exact OpensVs.one (c := c46) (ok := ok46) rfl o46
def ok48 : Atm → Prop := fun x => let v := ((fun v => (v.n, v.a) : Atm → (List UInt8 × List (Trm)))) x; ok9 v.1 ∧ ok46 v.2
abbrev c48 : Atm → List V := fun x => let v := ((fun v => (v.n, v.a) : Atm → (List UInt8 × List (Trm)))) x; c9 v.1 ++ (c46 v.2)
theorem o48 : OpensV 2 c48 Tryz.prog 48 ok48 := OpensV.iso (f := (fun v => (v.n, v.a) : Atm → (List UInt8 × List (Trm)))) ((fun a => ⟨a.1, a.2⟩ : (List UInt8 × List (Trm)) → Atm)) (fun _ => rfl) t48
theorem t210 : OpensV 5 (fun v : Int × List UInt8 × Val => c3 v.1 ++ (c9 v.2.1 ++ (c129 v.2.2))) Tryz.prog 210 (fun v => ok3 v.1 ∧ ok9 v.2.1 ∧ ok129 v.2.2) := by
  refine OpensV.struct Tryz.underlying210 (by kernel_rfl) ?_
  refine OpensVs.cons (n := 1) (m := 4) (c := c3) (d := fun w : List UInt8 × Val => c9 w.1 ++ (c129 w.2)) (ok := ok3) (ok' := fun w : List UInt8 × Val => ok9 w.1 ∧ ok129 w.2) rfl o3 ?_
  refine OpensVs.cons (n := 1) (m := 3) (c := c9) (d := fun w : Val => c129 w) (ok := ok9) (ok' := fun w : Val => ok129 w) rfl o9 ?_
  exact OpensVs.one (c := c129) (ok := ok129) rfl o129
def ok210 : Stp → Prop := fun x => let v := ((fun v => (v.k, v.v, v.x) : Stp → (Int × List UInt8 × Val))) x; ok3 v.1 ∧ ok9 v.2.1 ∧ ok129 v.2.2
abbrev c210 : Stp → List V := fun x => let v := ((fun v => (v.k, v.v, v.x) : Stp → (Int × List UInt8 × Val))) x; c3 v.1 ++ (c9 v.2.1 ++ (c129 v.2.2))
theorem o210 : OpensV 5 c210 Tryz.prog 210 ok210 := OpensV.iso (f := (fun v => (v.k, v.v, v.x) : Stp → (Int × List UInt8 × Val))) ((fun a => ⟨a.1, a.2.1, a.2.2⟩ : (Int × List UInt8 × Val) → Stp)) (fun _ => rfl) t210
def ok93 : List (Stp) → Prop := fun l => l.length ≤ maxLen ∧ ∀ v ∈ l, ok210 v
abbrev c93 : List (Stp) → List V := fun l => [.sl 5 (l.map c210)]
theorem o93 : OpensV 1 c93 Tryz.prog 93 ok93 := OpensV.slice o210 (by decide) Tryz.underlying93 (by kernel_rfl)
theorem t95 : OpensV 6 (fun v : Int × Atm × Int × List (Stp) × List (Stp) => c3 v.1 ++ (c48 v.2.1 ++ (c3 v.2.2.1 ++ (c93 v.2.2.2.1 ++ (c93 v.2.2.2.2))))) Tryz.prog 95 (fun v => ok3 v.1 ∧ ok48 v.2.1 ∧ ok3 v.2.2.1 ∧ ok93 v.2.2.2.1 ∧ ok93 v.2.2.2.2) := by
  refine OpensV.struct Tryz.underlying95 (by kernel_rfl) ?_
  refine OpensVs.cons (n := 1) (m := 5) (c := c3) (d := fun w : Atm × Int × List (Stp) × List (Stp) => c48 w.1 ++ (c3 w.2.1 ++ (c93 w.2.2.1 ++ (c93 w.2.2.2)))) (ok := ok3) (ok' := fun w : Atm × Int × List (Stp) × List (Stp) => ok48 w.1 ∧ ok3 w.2.1 ∧ ok93 w.2.2.1 ∧ ok93 w.2.2.2) rfl o3 ?_
  refine OpensVs.cons (n := 2) (m := 3) (c := c48) (d := fun w : Int × List (Stp) × List (Stp) => c3 w.1 ++ (c93 w.2.1 ++ (c93 w.2.2))) (ok := ok48) (ok' := fun w : Int × List (Stp) × List (Stp) => ok3 w.1 ∧ ok93 w.2.1 ∧ ok93 w.2.2) rfl o48 ?_
  refine OpensVs.cons (n := 1) (m := 2) (c := c3) (d := fun w : List (Stp) × List (Stp) => c93 w.1 ++ (c93 w.2)) (ok := ok3) (ok' := fun w : List (Stp) × List (Stp) => ok93 w.1 ∧ ok93 w.2) rfl o3 ?_
  refine OpensVs.cons (n := 1) (m := 1) (c := c93) (d := fun w : List (Stp) => c93 w) (ok := ok93) (ok' := fun w : List (Stp) => ok93 w) rfl o93 ?_
  exact OpensVs.one (c := c93) (ok := ok93) rfl o93
def ok95 : Cnd → Prop := fun x => let v := ((fun v => (v.k, v.a, v.h, v.l, v.r) : Cnd → (Int × Atm × Int × List (Stp) × List (Stp)))) x; ok3 v.1 ∧ ok48 v.2.1 ∧ ok3 v.2.2.1 ∧ ok93 v.2.2.2.1 ∧ ok93 v.2.2.2.2
abbrev c95 : Cnd → List V := fun x => let v := ((fun v => (v.k, v.a, v.h, v.l, v.r) : Cnd → (Int × Atm × Int × List (Stp) × List (Stp)))) x; c3 v.1 ++ (c48 v.2.1 ++ (c3 v.2.2.1 ++ (c93 v.2.2.2.1 ++ (c93 v.2.2.2.2))))
theorem o95 : OpensV 6 c95 Tryz.prog 95 ok95 := OpensV.iso (f := (fun v => (v.k, v.a, v.h, v.l, v.r) : Cnd → (Int × Atm × Int × List (Stp) × List (Stp)))) ((fun a => ⟨a.1, a.2.1, a.2.2.1, a.2.2.2.1, a.2.2.2.2⟩ : (Int × Atm × Int × List (Stp) × List (Stp)) → Cnd)) (fun _ => rfl) t95
def ok77 : List (Cnd) → Prop := fun l => l.length ≤ maxLen ∧ ∀ v ∈ l, ok95 v
abbrev c77 : List (Cnd) → List V := fun l => [.sl 6 (l.map c95)]
theorem o77 : OpensV 1 c77 Tryz.prog 77 ok77 := OpensV.slice o95 (by decide) Tryz.underlying77 (by kernel_rfl)
def ok96 : List (List (Stp)) → Prop := fun l => l.length ≤ maxLen ∧ ∀ v ∈ l, ok93 v
abbrev c96 : List (List (Stp)) → List V := fun l => [.sl 1 (l.map c93)]
theorem o96 : OpensV 1 c96 Tryz.prog 96 ok96 := OpensV.slice o93 (by decide) Tryz.underlying96 (by kernel_rfl)
theorem t98 : OpensV 4 (fun v : Int × List UInt8 × List (List (Stp)) × Int => c3 v.1 ++ (c9 v.2.1 ++ (c96 v.2.2.1 ++ (c3 v.2.2.2)))) Tryz.prog 98 (fun v => ok3 v.1 ∧ ok9 v.2.1 ∧ ok96 v.2.2.1 ∧ ok3 v.2.2.2) := by
  refine OpensV.struct Tryz.underlying98 (by kernel_rfl) ?_
  refine OpensVs.cons (n := 1) (m := 3) (c := c3) (d := fun w : List UInt8 × List (List (Stp)) × Int => c9 w.1 ++ (c96 w.2.1 ++ (c3 w.2.2))) (ok := ok3) (ok' := fun w : List UInt8 × List (List (Stp)) × Int => ok9 w.1 ∧ ok96 w.2.1 ∧ ok3 w.2.2) rfl o3 ?_
  refine OpensVs.cons (n := 1) (m := 2) (c := c9) (d := fun w : List (List (Stp)) × Int => c96 w.1 ++ (c3 w.2)) (ok := ok9) (ok' := fun w : List (List (Stp)) × Int => ok96 w.1 ∧ ok3 w.2) rfl o9 ?_
  refine OpensVs.cons (n := 1) (m := 1) (c := c96) (d := fun w : Int => c3 w) (ok := ok96) (ok' := fun w : Int => ok3 w) rfl o96 ?_
  exact OpensVs.one (c := c3) (ok := ok3) rfl o3
def ok98 : Act → Prop := fun x => let v := ((fun v => (v.k, v.n, v.a, v.w) : Act → (Int × List UInt8 × List (List (Stp)) × Int))) x; ok3 v.1 ∧ ok9 v.2.1 ∧ ok96 v.2.2.1 ∧ ok3 v.2.2.2
abbrev c98 : Act → List V := fun x => let v := ((fun v => (v.k, v.n, v.a, v.w) : Act → (Int × List UInt8 × List (List (Stp)) × Int))) x; c3 v.1 ++ (c9 v.2.1 ++ (c96 v.2.2.1 ++ (c3 v.2.2.2)))
theorem o98 : OpensV 4 c98 Tryz.prog 98 ok98 := OpensV.iso (f := (fun v => (v.k, v.n, v.a, v.w) : Act → (Int × List UInt8 × List (List (Stp)) × Int))) ((fun a => ⟨a.1, a.2.1, a.2.2.1, a.2.2.2⟩ : (Int × List UInt8 × List (List (Stp)) × Int) → Act)) (fun _ => rfl) t98
def ok78 : List (Act) → Prop := fun l => l.length ≤ maxLen ∧ ∀ v ∈ l, ok98 v
abbrev c78 : List (Act) → List V := fun l => [.sl 4 (l.map c98)]
theorem o78 : OpensV 1 c78 Tryz.prog 78 ok78 := OpensV.slice o98 (by decide) Tryz.underlying78 (by kernel_rfl)
theorem t80 : OpensV 4 (fun v : List UInt8 × Int × List (Cnd) × List (Act) => c9 v.1 ++ (c3 v.2.1 ++ (c77 v.2.2.1 ++ (c78 v.2.2.2)))) Tryz.prog 80 (fun v => ok9 v.1 ∧ ok3 v.2.1 ∧ ok77 v.2.2.1 ∧ ok78 v.2.2.2) := by
  refine OpensV.struct Tryz.underlying80 (by kernel_rfl) ?_
  refine OpensVs.cons (n := 1) (m := 3) (c := c9) (d := fun w : Int × List (Cnd) × List (Act) => c3 w.1 ++ (c77 w.2.1 ++ (c78 w.2.2))) (ok := ok9) (ok' := fun w : Int × List (Cnd) × List (Act) => ok3 w.1 ∧ ok77 w.2.1 ∧ ok78 w.2.2) rfl o9 ?_
  refine OpensVs.cons (n := 1) (m := 2) (c := c3) (d := fun w : List (Cnd) × List (Act) => c77 w.1 ++ (c78 w.2)) (ok := ok3) (ok' := fun w : List (Cnd) × List (Act) => ok77 w.1 ∧ ok78 w.2) rfl o3 ?_
  refine OpensVs.cons (n := 1) (m := 1) (c := c77) (d := fun w : List (Act) => c78 w) (ok := ok77) (ok' := fun w : List (Act) => ok78 w) rfl o77 ?_
  exact OpensVs.one (c := c78) (ok := ok78) rfl o78
def ok80 : Rul → Prop := fun x => let v := ((fun v => (v.n, v.p, v.c, v.a) : Rul → (List UInt8 × Int × List (Cnd) × List (Act)))) x; ok9 v.1 ∧ ok3 v.2.1 ∧ ok77 v.2.2.1 ∧ ok78 v.2.2.2
abbrev c80 : Rul → List V := fun x => let v := ((fun v => (v.n, v.p, v.c, v.a) : Rul → (List UInt8 × Int × List (Cnd) × List (Act)))) x; c9 v.1 ++ (c3 v.2.1 ++ (c77 v.2.2.1 ++ (c78 v.2.2.2)))
theorem o80 : OpensV 4 c80 Tryz.prog 80 ok80 := OpensV.iso (f := (fun v => (v.n, v.p, v.c, v.a) : Rul → (List UInt8 × Int × List (Cnd) × List (Act)))) ((fun a => ⟨a.1, a.2.1, a.2.2.1, a.2.2.2⟩ : (List UInt8 × Int × List (Cnd) × List (Act)) → Rul)) (fun _ => rfl) t80
end Go.PV
namespace Go.PV
open Go
/-! a row's closed facts, one by one -/
theorem joined_of {P : Program} {f : FuncId} {fn : Func} {s : ChangeSpec} {c : OpenClaim} (h1 : c.wf (OpenSpec.ofChange s) = true) (h2 : laidOutB P = true) (h3 : mapsRowed P = true) (h4 : namedTie P c.named s.vars = true)
    (h5 : (P.stops == []) = true) (h6 : (P.stopKnobs == []) = true) (h7 : (c.inPlace == P.inPlace f) = true) (h8 : (c.unfollowed == P.unfollowed f) = true) (h9 : (c.recurses == P.recurses f) = true) (h10 : (c.named == P.varsNamed f) = true)
    (h11 : (c.plainKeys == P.plainKeys) = true) (h12 : P.stopsHeard = true) (h13 : P.mayEnter = true) (h14 : (c.lifted == P.liftsFinal) = true) (h15 : (P.make == some c.make) = true)
    (h16 : (fn.params.all (P.readableRec ·) && (c.stops == []) && (c.knobs == []) &&
      (c.maps == (fn.params.toList ++ s.plain.varTypes P).any (P.mapsRec ·)) && (c.ifaces == (fn.params.toList ++ s.plain.varTypes P).any (P.ifacesRec ·)) && (c.mapsOut == P.mapsAmong fn.resultTypes.toList) &&
      (c.loops == (fn.params.toList ++ s.plain.varTypes P).any (P.loopsFrom ·)) && (c.wideKeys == (fn.params.toList ++ s.plain.varTypes P ++ fn.resultTypes.toList).any (P.wideKeysFrom ·)) &&
      s.vars.all (P.varReadable ·) && fn.resultTypes.all (fun t => P.readableRec t && decide (t < P.types.size)) && (c.ifacesOut == fn.resultTypes.toList.any (P.ifacesRec ·)) && (c.loopsOut == fn.resultTypes.toList.any (P.loopsFrom ·)) && c.shortTexts.isNone &&
      (c.kinds == (if c.domain.isEmpty then [] else fn.params.toList.map fun t => match P.underlying t with | some (.int k) => some k | _ => none)) && (c.pinned == c.pinnedBy) &&
      (c.veiled == (fn.params.toList ++ s.plain.varTypes P ++ fn.resultTypes.toList).any (P.veiledRec ·)) && c.veiledFits P fn.params.toList (fn.params.toList ++ s.plain.varTypes P ++ fn.resultTypes.toList)) = true) : joinedFacts P f fn s c = true := by
  unfold joinedFacts
  rw [h1, h2, h3, h4, h5, h6, h7, h8, h9, h10, h11, h12, h13, h14, h15]
  simp only [Bool.true_and, Bool.and_true]
  exact h16
end Go.PV
namespace Go.PV
open Go Go.RowKit Go.Lib Go.Proofs Go.Proofs.YtfdopmapaaagoaaGreatDoor
theorem pow_datum : (Rows.laid_internal_strconv_uint64pow10 : DataW Unit) = Lib.tabData .u64 Lib.pow10Tab := by kernel_rfl
theorem laidT_of {r : List (String × DataW Unit)} {W : World} (h : laidMet Tryz.prog (("internal/strconv.uint64pow10", Rows.laid_internal_strconv_uint64pow10) :: r) W) : Lib.TabIs Tryz.prog W "internal/strconv.uint64pow10" .u64 Lib.pow10Tab := by
  rw [pow_datum] at h
  exact tabIs_of_head (g := 1) (by kernel_rfl) (by kernel_rfl) Tryz.underlying285 Tryz.underlying266 (by kernel_rfl) (by kernel_rfl) h
theorem star_es : "*" ++ "errors.errorString" = "*errors.errorString" := by decide
theorem row_es (u : TypeId) (h : Tryz.prog.typeName? 3 u = some "*errors.errorString") : u = 303 :=
  typeName_ptr_named (nm := "errors.errorString") (by rw [star_es]; kernel_rfl) (by kernel_rfl) (by decide) u (by rw [star_es]; exact h)
theorem globRan_of {r : List (String × DataW Unit)} {W : World} (h : laidMet Tryz.prog (("strconv.ErrRange", Rows.laid_strconv_ErrRange) :: r) W) : ∃ tp p, W.var? Tryz.prog "strconv.ErrRange" = some #[.iface tp p] := by
  obtain ⟨a, s, hv, _⟩ := laid_sentinel (g := 3) h (by kernel_rfl) (by kernel_rfl) Tryz.underlying217 row_es Tryz.underlying303 Tryz.underlying305 rfl rfl Tryz.underlying9 (by kernel_rfl) (by kernel_rfl)
  exact ⟨_, _, hv⟩
theorem globSyn_of {r : List (String × DataW Unit)} {W : World} (h : laidMet Tryz.prog (("strconv.ErrSyntax", Rows.laid_strconv_ErrSyntax) :: r) W) : ∃ tp p, W.var? Tryz.prog "strconv.ErrSyntax" = some #[.iface tp p] := by
  obtain ⟨a, s, hv, _⟩ := laid_sentinel (g := 2) h (by kernel_rfl) (by kernel_rfl) Tryz.underlying217 row_es Tryz.underlying303 Tryz.underlying305 rfl rfl Tryz.underlying9 (by kernel_rfl) (by kernel_rfl)
  exact ⟨_, _, hv⟩
end Go.PV
