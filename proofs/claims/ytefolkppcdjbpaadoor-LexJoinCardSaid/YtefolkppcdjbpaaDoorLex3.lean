/- Part of the proof of LexJoin. -/
import Derived.Test.YtefolkppcdjbpaaDoorLex2
import Derived.Test.YtefolkppcdjbpaaDoorPvT
namespace Go.PV
open Go Go.Proofs
set_option maxRecDepth 100000
abbrev nextV (s : Bs) : V := .agg [.int .i64 (nextS s).1, .str (s.take (nextS s).2.1), .int .i64 0, .int .i64 0]
theorem next_good (s : Bs) (hs : s.length ≤ 100000) (h0 : s ≠ []) : Good Tryd.prog 11 [.str s] [] [nextV s, .bool (nextS s).2.2] [] := by
  refine good_of hP Tryd.func11 (by kernel_rfl) (lv := [0, 2, 3, 4, 5, 6, 7, 9, 10, 12, 13, 16, 26, 34, 67]) (js := [200002, 200008]) ⟨rfl, rfl, rfl, rfl, rfl, rfl, _, rfl, ?_⟩
  have hl : 0 < s.length := List.length_pos_iff.2 h0
  obtain ⟨c, r, hcr, hc⟩ := head_at hl
  conv => whnf
  refine ⟨c, by rw [← hc]; exact idx hl rfl, ?_⟩
  conv => whnf
  refine seq_of hP [0, 2, 3, 4, 5, 6, 7, 9, 10, 12, 13, 16, 26, 34, 67] [200002, 200008] [0, 2, 3, 4, 16] [66] [] (fun st => st = ⟨[(0, .str s), (2, .ptr 66 0 0), (3, .bool false), (4, .int .u8 c.toNat), (16, .bool (decide (smallB c ∨ largeB c)))], [(66, .box 0 [.int .i64 0, .str [], .int .i64 0, .int .i64 0])]⟩) ?_ ?_
  · conv => whnf
    refine call0 (small_good _) ?_
    cases h1 : smallB c with
    | true => conv => whnf
              rfl
    | false =>
      conv => whnf
      refine call0 (large_good _) ?_
      conv => whnf
      simp only [Bool.false_eq_true, false_or, Bool.decide_eq_true]
  rintro st rfl
  conv => whnf
  refine branch_of (fun h => ?_) (fun h => ?_)
  · have h := of_decide_eq_true h
    have hr := takeWhile_len (p := letterB) s
    have e : nextS s = (if largeB c then 2 else 1, (s.takeWhile letterB).length, decide ((s.takeWhile letterB).length ≤ 24)) := by
      conv => lhs; rw [hcr]
      rw [nextS, if_pos h, ← hcr]
    conv => whnf
    refine call0 (run_good s (by omega) _ letterB letter_good) ?_
    conv => whnf
    refine call0 (large_good _) ?_
    cases h2 : largeB c with
    | true =>
      rw [h2] at e
      conv => whnf
      refine ⟨⟨⟩, by dsimp only; omega, ?_⟩
      conv => whnf
      refine fin0 ?_ trivial
      simp [nextV, e]; omega
    | false =>
      rw [h2] at e
      conv => whnf
      refine ⟨⟨⟩, by dsimp only; omega, ?_⟩
      conv => whnf
      refine fin0 ?_ trivial
      simp [nextV, e]; omega
  · have hn := of_decide_eq_false h
    conv => whnf
    refine seq_of hP [0, 2, 3, 4, 5, 6, 7, 9, 10, 12, 13, 16, 26, 34, 67] [200002, 200008] [0, 2, 3, 4, 34] [66] [] (fun st => st = ⟨[(0, .str s), (2, .ptr 66 0 0), (3, .bool false), (4, .int .u8 c.toNat), (34, .bool (decide (digitB c ∨ (c.toNat = 45 ∧ headB digitB r))))], [(66, .box 0 [.int .i64 0, .str [], .int .i64 0, .int .i64 0])]⟩) ?_ ?_
    · conv => whnf
      refine call0 (digit_good _) ?_
      cases h1 : digitB c with
      | true => conv => whnf
                rfl
      | false =>
        conv => whnf
        refine branch_of (fun h2 => ?_) (fun h2 => ?_)
        · have h2 : c.toNat = 45 := by have := of_decide_eq_true h2; omega
          conv => whnf
          refine branch_of (fun h3 => ?_) (fun h3 => ?_)
          · have h3 := of_decide_eq_true h3
            have h31 : 1 < s.length := by omega
            have hd : headB digitB r = digitB s[1] := by
              have : r = s[1] :: s.drop 2 := by
                have e := drop_cons h31
                conv at e => lhs; rw [hcr]
                simpa using e
              rw [this]; rfl
            conv => whnf
            refine ⟨s[1], idx h31 rfl, ?_⟩
            conv => whnf
            refine call0 (digit_good _) ?_
            conv => whnf
            simp only [h2, hd, Bool.false_eq_true, false_or, true_and, Bool.decide_eq_true]
          · have h3 := of_decide_eq_false h3
            have hr : r = [] := by
              rw [hcr] at h3; simp at h3
              exact List.eq_nil_of_length_eq_zero (by omega)
            subst hr
            conv => whnf
            simp only [h2, headB, Bool.false_eq_true, and_false, or_false, decide_false]
        · have h2 : c.toNat ≠ 45 := by have := of_decide_eq_false h2; omega
          conv => whnf
          simp only [h2, false_and, Bool.false_eq_true, or_false, decide_false]
    rintro st rfl
    conv => whnf
    refine branch_of (fun h => ?_) (fun h => ?_)
    · have h := of_decide_eq_true h
      have hr := takeWhile_len (p := digitB) r
      have hrl : s.length = r.length + 1 := by rw [hcr]; rfl
      have e : nextS s = (3, 1 + (r.takeWhile digitB).length, (numberS (s.take (1 + (r.takeWhile digitB).length))).isSome) := by
        conv => lhs; rw [hcr]
        rw [nextS, if_neg hn, if_pos h, ← hcr]
      have hd : s.drop 1 = r := by rw [hcr]; rfl
      conv => whnf
      refine ⟨⟨⟩, by dsimp only; omega, ?_⟩
      conv => whnf
      refine call0 (run_good r (by omega) _ digitB digit_good) ?_ (by rw [← hd]; rfl)
      have hw : IntKind.i64.wrap (1 + ((r.takeWhile digitB).length : Int)) = (1 + (r.takeWhile digitB).length : Nat) := by rw [wr (by omega) (by omega)]; omega
      conv => whnf
      refine ⟨⟨⟩, by dsimp only; rw [hw]; omega, ?_⟩
      conv => whnf
      refine call0 (number_good (s.take (1 + (r.takeWhile digitB).length)) (by simp; omega)) ?_ (by rw [hw]; rfl)
      conv => whnf
      refine ⟨⟨⟩, by dsimp only; rw [hw]; omega, ?_⟩
      conv => whnf
      refine fin0 ?_ trivial
      rw [hw]
      simp only [nextV, e]; rfl
    · have hn2 := of_decide_eq_false h
      conv => whnf
      refine branch_of (fun h => ?_) (fun h => ?_)
      · have h : c.toNat = 34 := by have := of_decide_eq_true h; omega
        have e : nextS s = (4, textS s, decide (0 < textS s) && (parseS (s.take (textS s))).isSome) := by
          conv => lhs; rw [hcr]
          rw [nextS, if_neg hn, if_neg hn2, if_pos h, ← hcr]
        have hr := textS_le s h0
        conv => whnf
        refine call0 (text_len_good s (by omega)) ?_
        conv => whnf
        refine ⟨⟨⟩, by dsimp only; omega, ?_⟩
        conv => whnf
        refine call0 (parse_good (s.take (textS s)) (by simp; omega)) ?_
        conv => whnf
        refine ⟨⟨⟩, by dsimp only; omega, ?_⟩
        conv => whnf
        refine branch_of (fun h => ?_) (fun h => ?_)
        · have h := of_decide_eq_true h
          conv => whnf
          refine fin0 ?_ trivial
          simp only [nextV, e]
          cases hp : parseS (s.take (textS s)) <;> simp <;> omega
        · have h := of_decide_eq_false h
          conv => whnf
          refine fin0 ?_ trivial
          simp only [nextV, e]
          simp; omega
      · have hn3 : c.toNat ≠ 34 := by have := of_decide_eq_false h; omega
        have e : nextS s = (5, signS s, decide (0 < signS s)) := by
          conv => lhs; rw [hcr]
          rw [nextS, if_neg hn, if_neg hn2, if_neg hn3, ← hcr]
        have hr := signS_le s
        conv => whnf
        refine call0 (sign_good s h0) ?_
        conv => whnf
        refine ⟨⟨⟩, by dsimp only; omega, ?_⟩
        conv => whnf
        refine fin0 ?_ trivial
        simp only [nextV, e]
        simp
abbrev toksV (l : List Tok) : List (List V) := l.map Tok.c
theorem tokens_good (s : Bs) (hs : s.length ≤ 20000) : Good Tryd.prog 6 [.str s] [] [.sl 4 (toksV (toksR s)), .agg [.int .i64 (posR s).1, .int .i64 (posR s).2], .int .i64 (errR s)] [] := by
  refine good_of hP Tryd.func6 (by kernel_rfl) (lv := [0, 2, 3, 4, 5, 6, 7, 10, 24, 36]) (js := []) ⟨rfl, rfl, rfl, rfl, rfl, rfl, _, rfl, ?_⟩
  conv => whnf
  refine branch_of (fun h => absurd (of_decide_eq_true h) (by omega)) (fun _ => ?_)
  conv => whnf
  have hb := blanksN_le false s
  refine callN [(79, 0)] (blanks_good s 0 (by omega) (by omega)) ?_
  rw [List.drop_zero, Nat.zero_add]
  conv => whnf
  refine ⟨⟨⟩, rfl, ?_⟩
  conv => whnf
  refine loop_of hP [0, 2, 3, 4, 5, 6, 7, 10, 24, 36] [] [0, 2, 3, 4, 5] [66, 67, 79] [.slot 2 4] (fun f st => ∃ (i : Nat) (acc : List Tok), i ≤ s.length ∧ s.length ≤ f + i ∧ acc.length ≤ i ∧ toksS s = (acc ++ (toksGo s f i).1, (toksGo s f i).2) ∧ st = ⟨[(0, .str s), (2, .own 66 0), (3, .ptr 67 0 0), (4, .int .i64 0), (5, .ptr 79 0 0)], [(66, .arr 0 false 4 (toksV acc)), (67, .box 0 [.int .i64 0, .int .i64 0]), (79, rd s i)]⟩) s.length ?_ ?_
  · conv => whnf
    exact ⟨blanksN false s, [], hb, by omega, Nat.zero_le _, rfl, rfl⟩
  · rintro f st ⟨i, acc, hi, hf, hacc, he, rfl⟩
    conv => whnf
    refine branch_of (fun h => ?_) (fun h => ?_)
    · have h := of_decide_eq_true h
      have hi' : i < s.length := by omega
      obtain ⟨f, rfl⟩ : ∃ f', f = f' + 1 := ⟨f - 1, by omega⟩
      conv => whnf
      refine ⟨⟨⟩, by dsimp only; omega, ?_⟩
      conv => whnf
      have hne : s.drop i ≠ [] := fun e => by have := congrArg List.length e; simp at this; omega
      have hn := nextS_le (s.drop i)
      rw [List.length_drop] at hn
      refine call0 (next_good (s.drop i) (by simp; omega) hne) ?_
      rw [toksGo, if_pos hi'] at he
      dsimp only at he
      cases hx : (nextS (s.drop i)).2.2 with
      | false =>
        rw [hx, if_neg (by simp)] at he
        conv => whnf
        refine ⟨by kernel_rfl, ?_⟩
        conv => whnf
        refine fin0 ?_ trivial
        simp [toksR, errR, posR, he]
      | true =>
        rw [hx, if_pos rfl] at he
        have hp := nextS_pos hx
        conv => whnf
        refine ⟨⟨⟩, by dsimp only; simp only [List.length_map, List.length_cons, List.length_nil]; omega, ?_⟩
        conv => whnf
        have hlen : ((s.drop i).take (nextS (s.drop i)).2.1).length = (nextS (s.drop i)).2.1 := by simp; omega
        generalize hN : (nextS (s.drop i)).2.1 = N at *
        refine callN [(79, 0)] (pass_good s i N (by omega) (by omega)) ?_ (by rw [hlen]; rfl)
        conv => whnf
        refine ⟨⟨⟩, rfl, ?_⟩
        conv => whnf
        refine callN [(79, 0)] (blanks_good s (i + N) (by omega) (by omega)) ?_
        have hb2 := blanksN_le false (s.drop (i + N))
        rw [List.length_drop] at hb2
        generalize hB : blanksN false (s.drop (i + N)) = B at *
        conv => whnf
        refine ⟨⟨⟩, rfl, ?_⟩
        conv => whnf
        refine ⟨f, by omega, i + N + B, acc ++ [⟨(nextS (s.drop i)).1, (s.drop i).take N, posS (s.take i)⟩], by omega, by omega, by simp; omega, by rw [he]; simp, ?_⟩
        rw [show toksV (acc ++ [⟨(nextS (s.drop i)).1, (s.drop i).take N, posS (s.take i)⟩]) = toksV acc ++ [Tok.c ⟨(nextS (s.drop i)).1, (s.drop i).take N, posS (s.take i)⟩] from List.map_append]
        rfl
    · have h := of_decide_eq_false h
      have hg : toksGo s f i = ([], none) := by
        cases f with
        | zero => rfl
        | succ f => rw [toksGo, if_neg (by omega)]
      rw [hg, List.append_nil] at he
      conv => whnf
      refine fin0 ?_ trivial
      simp [toksR, errR, posR, he]
end Go.PV
