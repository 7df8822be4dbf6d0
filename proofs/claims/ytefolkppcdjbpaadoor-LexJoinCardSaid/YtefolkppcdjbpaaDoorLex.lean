/- Part of the proof of LexJoin. -/
import Derived.Test.YtefolkppcdjbpaaDoorPvT
import Derived.Test.YtefolkppcdjbpaaDoorVal
namespace Go.PV
open Go Go.Proofs
set_option maxRecDepth 100000
theorem small_good (c : UInt8) : Good Tryd.prog 16 [.int .u8 c.toNat] [] [.bool (smallB c)] [] := by
  refine good_of hP Tryd.func16 (by kernel_rfl) (lv := [0, 2]) (js := []) ⟨rfl, rfl, rfl, rfl, rfl, rfl, _, rfl, ?_⟩
  repeat' (conv => whnf); refine branch_of (fun _ => ?_) (fun _ => ?_)
  all_goals (conv => whnf); exact fin0 (by simp_all [smallB, inB] <;> first | omega | (rw [Bool.eq_iff_iff]; simp; omega)) trivial
theorem large_good (c : UInt8) : Good Tryd.prog 17 [.int .u8 c.toNat] [] [.bool (largeB c)] [] := by
  refine good_of hP Tryd.func17 (by kernel_rfl) (lv := [0, 2]) (js := []) ⟨rfl, rfl, rfl, rfl, rfl, rfl, _, rfl, ?_⟩
  repeat' (conv => whnf); refine branch_of (fun _ => ?_) (fun _ => ?_)
  all_goals (conv => whnf); exact fin0 (by simp_all [largeB, inB] <;> first | omega | (rw [Bool.eq_iff_iff]; simp; omega)) trivial
theorem digit_good (c : UInt8) : Good Tryd.prog 20 [.int .u8 c.toNat] [] [.bool (digitB c)] [] := by
  refine good_of hP Tryd.func20 (by kernel_rfl) (lv := [0, 2]) (js := []) ⟨rfl, rfl, rfl, rfl, rfl, rfl, _, rfl, ?_⟩
  repeat' (conv => whnf); refine branch_of (fun _ => ?_) (fun _ => ?_)
  all_goals (conv => whnf); exact fin0 (by simp_all [digitB, inB] <;> first | omega | (rw [Bool.eq_iff_iff]; simp; omega)) trivial
theorem blank_good (c : UInt8) : Good Tryd.prog 15 [.int .u8 c.toNat] [] [.bool (blankB c)] [] := by
  refine good_of hP Tryd.func15 (by kernel_rfl) (lv := [0, 2]) (js := []) ⟨rfl, rfl, rfl, rfl, rfl, rfl, _, rfl, ?_⟩
  conv => whnf
  refine branch_of (fun h1 => ?_) (fun h1 => ?_)
  · conv => whnf
    exact fin0 (by simp [blankB]; simp at h1; omega) trivial
  conv => whnf
  refine branch_of (fun h2 => ?_) (fun h2 => ?_)
  · conv => whnf
    exact fin0 (by simp [blankB]; simp at h2; omega) trivial
  conv => whnf
  refine branch_of (fun h3 => ?_) (fun h3 => ?_)
  · conv => whnf
    exact fin0 (by simp [blankB]; simp at h3; omega) trivial
  conv => whnf
  refine fin0 ?_ trivial
  simp at h1 h2 h3
  congr 2
  unfold blankB
  rw [decide_eq_decide]; omega
theorem letter_good (c : UInt8) : Good Tryd.prog 19 [.int .u8 c.toNat] [] [.bool (letterB c)] [] := by
  refine good_of hP Tryd.func19 (by kernel_rfl) (lv := [0, 2]) (js := []) ⟨rfl, rfl, rfl, rfl, rfl, rfl, _, rfl, ?_⟩
  conv => whnf
  refine call0 (small_good _) ?_
  cases h1 : smallB c with
  | true => conv => whnf
            exact fin0 (by simp [letterB, h1]) trivial
  | false =>
  conv => whnf
  refine call0 (large_good _) ?_
  cases h2 : largeB c with
  | true => conv => whnf
            exact fin0 (by simp [letterB, h2]) trivial
  | false =>
  conv => whnf
  refine call0 (digit_good _) ?_
  cases h3 : digitB c with
  | true => conv => whnf
            exact fin0 (by simp [letterB, h3]) trivial
  | false =>
  conv => whnf
  refine fin0 ?_ trivial
  congr 2
  simp [letterB, h1, h2, h3]; omega
theorem run_good (s : Bs) (hs : s.length ≤ 1000000) (g : FuncId) (p : UInt8 → Bool) (hg : ∀ c : UInt8, Good Tryd.prog g [.int .u8 c.toNat] [] [.bool (p c)] []) : Good Tryd.prog 18 [.str s, .fn g []] [] [.int .i64 (s.takeWhile p).length] [] := by
  refine good_of hP Tryd.func18 (by kernel_rfl) (lv := [0, 1, 4, 5, 7, 8, 9, 16]) (js := []) ⟨rfl, rfl, rfl, rfl, rfl, rfl, _, rfl, ?_⟩
  conv => whnf
  refine loop_of hP [0, 1, 4, 5, 7, 8, 9, 16] [] [0, 1, 4, 7, 8] [] [] (fun n st => ∃ k : Nat, n = s.length - k ∧ k ≤ s.length ∧ (s.takeWhile p).length = k + ((s.drop k).takeWhile p).length ∧ st = ⟨[(0, .str s), (1, .fn g []), (4, .int .i64 0), (7, .int .i64 s.length), (8, .int .i64 k)], []⟩) s.length ?_ ?_
  · conv => whnf
    exact ⟨0, rfl, Nat.zero_le _, by simp, rfl⟩
  · rintro n st ⟨k, rfl, hk, he, rfl⟩
    conv => whnf
    refine branch_of (fun h => ?_) (fun h => ?_)
    · conv => whnf
      have hk' : k < s.length := by simpa using h
      rw [takeWhile_drop hk'] at he
      refine ⟨s[k], ⟨by omega, by simp [hk']⟩, ?_⟩
      conv => whnf
      refine call0 (hg _) ?_
      cases hp : p s[k] with
      | false =>
        conv => whnf
        refine fin0 ?_ trivial
        rw [hp] at he
        rw [he]; simp
      | true =>
        conv => whnf
        rw [hp, if_pos rfl, List.length_cons] at he
        refine ⟨s.length - (k + 1), by omega, k + 1, rfl, by omega, by omega, ?_⟩
        rw [wr (by omega) (by omega)]; rfl
    · conv => whnf
      refine fin0 ?_ trivial
      have : s.drop k = [] := by simp at h; exact List.drop_eq_nil_iff.2 (by omega)
      simp at h
      rw [he, this]; simp; omega
theorem hasPrefix0_good (s p : Bs) : Good Tryd.prog 49 [.str s, .str p] [] [.bool (hasP s p)] [] := by
  refine good_of hP Tryd.func49 (by kernel_rfl) (lv := [0, 1, 4]) (js := []) ⟨rfl, rfl, rfl, rfl, rfl, rfl, _, rfl, ?_⟩
  conv => whnf
  refine branch_of (fun h => ?_) (fun h => ?_)
  · simp at h
    conv => whnf
    refine ⟨⟨⟩, by dsimp only; omega, ?_⟩
    conv => whnf
    exact fin0 (by simp [hasP, h]) trivial
  · simp at h
    conv => whnf
    exact fin0 (by simp [hasP]; omega) trivial
theorem hasPrefix_good (s p : Bs) : Good Tryd.prog 35 [.str s, .str p] [] [.bool (hasP s p)] [] := by
  refine good_of hP Tryd.func35 (by kernel_rfl) (lv := [0, 1, 4]) (js := []) ⟨rfl, rfl, rfl, rfl, rfl, rfl, _, rfl, ?_⟩
  conv => whnf
  refine call0 (hasPrefix0_good s p) ?_
  conv => whnf
  exact fin0 rfl trivial
theorem cutPrefix0_good (s p : Bs) : Good Tryd.prog 39 [.str s, .str p] [] [.str (if hasP s p then s.drop p.length else s), .bool (hasP s p)] [] := by
  refine good_of hP Tryd.func39 (by kernel_rfl) (lv := [0, 1, 4, 5, 9]) (js := []) ⟨rfl, rfl, rfl, rfl, rfl, rfl, _, rfl, ?_⟩
  conv => whnf
  refine call0 (hasPrefix0_good s p) ?_
  cases h : hasP s p with
  | false =>
    conv => whnf
    exact fin0 rfl trivial
  | true =>
    have hl := hasP_len h
    conv => whnf
    refine ⟨⟨⟩, by dsimp only; omega, ?_⟩
    conv => whnf
    exact fin0 rfl trivial
theorem cutPrefix_good (s p : Bs) : Good Tryd.prog 29 [.str s, .str p] [] [.str (if hasP s p then s.drop p.length else s), .bool (hasP s p)] [] := by
  refine good_of hP Tryd.func29 (by kernel_rfl) (lv := [0, 1, 4, 5]) (js := []) ⟨rfl, rfl, rfl, rfl, rfl, rfl, _, rfl, ?_⟩
  conv => whnf
  refine call0 (cutPrefix0_good s p) ?_
  conv => whnf
  exact fin0 rfl trivial
theorem trimByte_good (s : Bs) : Good Tryd.prog 40 [.str s, .int .u8 48] [] [.str (trim0 s)] [] := by
  refine good_of hP Tryd.func40 (by kernel_rfl) (lv := [0, 1, 4, 13]) (js := []) ⟨rfl, rfl, rfl, rfl, rfl, rfl, _, rfl, ?_⟩
  conv => whnf
  refine loop_of hP [0, 1, 4, 13] [] [0, 1, 4] [] [] (fun n st => ∃ t : Bs, n = t.length ∧ trim0 s = trim0 t ∧ st = ⟨[(0, .str t), (1, .int .u8 48), (4, .str [])], []⟩) s.length ?_ ?_
  · conv => whnf
    exact ⟨s, rfl, rfl, rfl⟩
  · rintro n st ⟨t, rfl, he, rfl⟩
    conv => whnf
    refine branch_of (fun h => ?_) (fun h => ?_)
    · have h := of_decide_eq_true h
      obtain ⟨c, r, rfl, _⟩ := head_at (s := t) (by omega)
      conv => whnf
      refine ⟨c, ⟨by omega, rfl⟩, ?_⟩
      conv => whnf
      refine branch_of (fun h1 => ?_) (fun h1 => ?_)
      · simp at h1
        conv => whnf
        refine ⟨⟨⟩, by dsimp only; simp only [List.length_cons]; omega, ?_⟩
        conv => whnf
        refine ⟨r.length, by simp, r, rfl, ?_, rfl⟩
        rw [he]; unfold trim0; rw [List.dropWhile_cons, if_pos (by simp; omega)]
      · simp at h1
        conv => whnf
        refine fin0 ?_ trivial
        rw [he]; unfold trim0; rw [List.dropWhile_cons, if_neg (by simp; omega)]
    · have h := of_decide_eq_false h
      conv => whnf
      refine fin0 ?_ trivial
      have : t = [] := List.eq_nil_of_length_eq_zero (by omega)
      rw [he, this]; rfl
theorem trim_good (s : Bs) : Good Tryd.prog 30 [.str s, .str [48]] [] [.str (trim0 s)] [] := by
  refine good_of hP Tryd.func30 (by kernel_rfl) (lv := [0, 1, 4, 5, 6, 12, 21, 31]) (js := []) ⟨rfl, rfl, rfl, rfl, rfl, rfl, _, rfl, ?_⟩
  conv => whnf
  refine branch_of (fun h => ?_) (fun h => ?_)
  · conv => whnf
    refine fin0 ?_ trivial
    have : s = [] := by simpa using h
    subst this; rfl
  · conv => whnf
    refine ⟨48, ⟨by omega, rfl⟩, ?_⟩
    conv => whnf
    refine ⟨48, ⟨by omega, rfl⟩, ?_⟩
    conv => whnf
    refine call0 (trimByte_good s) ?_
    conv => whnf
    exact fin0 rfl trivial
theorem takeWhile_all {p : UInt8 → Bool} {s : Bs} : (s.takeWhile p).length < s.length ↔ s.all p = false := by
  induction s with
  | nil => simp
  | cons c s ih =>
    rw [List.takeWhile_cons, List.all_cons]
    cases h : p c with
    | false => simp
    | true => simp only [if_pos, List.length_cons, Bool.true_and, Nat.add_lt_add_iff_right]; exact ih
theorem trim0_len (s : Bs) : (trim0 s).length ≤ s.length := by
  unfold trim0
  exact (List.dropWhile_suffix _).length_le
theorem number_good (s : Bs) (hs : s.length ≤ 100000) : Good Tryd.prog 21 [.str s] [] [.agg ((numberS s).getD zeroV).c, .bool (numberS s).isSome] [] := by
  refine good_of hP Tryd.func21 (by kernel_rfl) (lv := [0, 2, 3, 4, 5, 6, 7, 21, 26, 28]) (js := []) ⟨rfl, rfl, rfl, rfl, rfl, rfl, _, rfl, ?_⟩
  conv => whnf
  refine call0 (cutPrefix_good s [45]) ?_
  have hr : (if hasP s [45] then s.drop ([45] : Bs).length else s) = numRest s := rfl
  rw [hr]
  have hl : (numRest s).length ≤ s.length := by unfold numRest; split <;> simp
  have ht := trim0_len (numRest s)
  conv => whnf
  refine branch_of (fun h => ?_) (fun h => ?_)
  · have h : numRest s = [] := by simpa using h
    conv => whnf
    exact fin0 (by simp [numberS, h, zeroV]) trivial
  · have h : numRest s ≠ [] := by simpa using h
    conv => whnf
    refine call0 (run_good (numRest s) (by omega) _ digitB digit_good) ?_
    conv => whnf
    refine branch_of (fun h1 => ?_) (fun h1 => ?_)
    · have h1 : (numRest s).all digitB = false := takeWhile_all.1 (by simpa using h1)
      conv => whnf
      exact fin0 (by simp [numberS, h1, zeroV]) trivial
    · have h1 : (numRest s).all digitB = true := by
        cases e : (numRest s).all digitB with
        | true => rfl
        | false => exact absurd (takeWhile_all.2 e) (by simpa using h1)
      conv => whnf
      refine call0 (trim_good _) ?_
      conv => whnf
      refine branch_of (fun h2 => ?_) (fun h2 => ?_)
      · have h2 : trim0 (numRest s) = [] := by simpa using h2
        conv => whnf
        exact fin0 (by simp [numberS, h, h1, h2]) trivial
      · have h2 : trim0 (numRest s) ≠ [] := by simpa using h2
        have e : numberS s = parseS (if hasP s [45] then 45 :: trim0 (numRest s) else trim0 (numRest s)) := by simp [numberS, h, h1, h2]
        rw [e]
        cases hb : hasP s [45] with
        | true =>
          rw [if_pos rfl]
          conv => whnf
          refine ⟨⟨⟩, by dsimp only; simp only [List.length_cons, List.length_nil]; omega, ?_⟩
          conv => whnf
          refine call0 (parse_good (45 :: trim0 (numRest s)) (by simp only [List.length_cons]; omega)) ?_
          conv => whnf
          cases hp : parseS (45 :: trim0 (numRest s)) <;> exact fin0 rfl trivial
        | false =>
          rw [if_neg (by simp)]
          conv => whnf
          refine call0 (parse_good (trim0 (numRest s)) (by omega)) ?_
          conv => whnf
          cases hp : parseS (trim0 (numRest s)) <;> exact fin0 rfl trivial
theorem textGo_quote {c : UInt8} (h : c.toNat = 34) (i : Nat) (r : Bs) : textGo i (c :: r) = i + 1 := by
  cases r <;> simp [textGo, h]
theorem textGo_esc {c d : UInt8} (h : c.toNat = 92) (h2 : escB d = true) (i : Nat) (r : Bs) : textGo i (c :: d :: r) = textGo (i + 2) r := by
  rw [textGo]; simp [h, h2]
theorem textGo_bad {c : UInt8} {r : Bs} (h : c.toNat ≠ 34) (h2 : (c.toNat = 92 ∧ headB escB r = false) ∨ plainB c = false) (i : Nat) : textGo i (c :: r) = 0 := by
  have hp : plainB c = false → c.toNat ≠ 92 := by simp only [plainB, inB_no]; omega
  cases r with
  | nil => simp [textGo, h]
  | cons d r =>
    rw [textGo]
    simp only [headB] at h2
    rcases h2 with ⟨h3, h4⟩ | h3
    · simp [h3, h4]
    · simp [h, h3, hp h3]
theorem textGo_step {c : UInt8} (h : c.toNat ≠ 34) (h1 : c.toNat ≠ 92) (h2 : plainB c = true) (i : Nat) (r : Bs) : textGo i (c :: r) = textGo (i + 1) r := by
  cases r with
  | nil => simp [textGo, h]
  | cons d r => rw [textGo]; simp [h, h1, h2]
theorem text_len_good (s : Bs) (hs : s.length ≤ 1000000) : Good Tryd.prog 22 [.str s] [] [.int .i64 (textS s)] [] := by
  refine good_of hP Tryd.func22 (by kernel_rfl) (lv := [0, 2, 3, 4, 8, 14, 19, 45]) (js := []) ⟨rfl, rfl, rfl, rfl, rfl, rfl, _, rfl, ?_⟩
  conv => whnf
  refine loop_of hP [0, 2, 3, 4, 8, 14, 19, 45] [] [0, 2, 3] [] [] (fun n st => ∃ k : Nat, n = s.length + 1 - k ∧ 1 ≤ k ∧ (k ≤ s.length ∨ k = 1) ∧ textS s = textGo k (s.drop k) ∧ st = ⟨[(0, .str s), (2, .int .i64 0), (3, .int .i64 k)], []⟩) s.length ?_ ?_
  · conv => whnf
    exact ⟨1, by omega, by omega, .inr rfl, rfl, rfl⟩
  · rintro n st ⟨k, rfl, hk0, hk, he, rfl⟩
    conv => whnf
    refine branch_of (fun h => ?_) (fun h => ?_)
    · have h := of_decide_eq_true h
      have hk' : k < s.length := by omega
      rw [drop_cons hk'] at he
      conv => whnf
      refine ⟨s[k], ⟨by omega, by simp [hk']⟩, ?_⟩
      generalize hc : s[k] = c at he ⊢
      conv => whnf
      refine branch_of (fun h1 => ?_) (fun h1 => ?_)
      · have h1 := of_decide_eq_true h1
        conv => whnf
        refine fin0 ?_ trivial
        rw [he, textGo_quote (by omega), wr (by omega) (by omega)]; rfl
      · have h1 := of_decide_eq_false h1
        conv => whnf
        refine branch_of (fun h2 => ?_) (fun h2 => ?_)
        · have h2 := of_decide_eq_true h2
          conv => whnf
          refine branch_of (fun h3 => ?_) (fun h3 => ?_)
          · have h3 := of_decide_eq_true h3
            rw [wr (by omega) (by omega)] at h3
            have hk2 : k + 1 < s.length := by omega
            rw [drop_cons hk2] at he
            have hw : IntKind.i64.wrap ((k : Int) + 1) = (k + 1 : Nat) := wr (by omega) (by omega)
            refine ⟨s[k + 1], idx hk2 hw, ?_⟩
            have esc : escB s[k + 1] = true → ∃ m, m < s.length + 1 - k ∧ ∃ k' : Nat, m = s.length + 1 - k' ∧ 1 ≤ k' ∧ (k' ≤ s.length ∨ k' = 1) ∧ textS s = textGo k' (s.drop k') ∧ (⟨[(0, .str s), (2, .int .i64 0), (3, .int .i64 (IntKind.i64.wrap (IntKind.i64.wrap (k + 1) + 1)))], []⟩ : St) = ⟨[(0, .str s), (2, .int .i64 0), (3, .int .i64 k')], []⟩ := fun hd => by
              refine ⟨s.length + 1 - (k + 2), by omega, k + 2, rfl, by omega, by omega, by rw [he, textGo_esc (by omega) hd], ?_⟩
              rw [hw, wr (by omega) (by omega)]; rfl
            conv => whnf
            refine branch_of (fun h4 => ?_) (fun h4 => ?_)
            · have h4 := of_decide_eq_true h4
              conv => whnf
              exact esc (by simp [escB]; omega)
            · have h4 := of_decide_eq_false h4
              conv => whnf
              refine ⟨s[k + 1], idx hk2 hw, ?_⟩
              conv => whnf
              refine branch_of (fun h5 => ?_) (fun h5 => ?_)
              · have h5 := of_decide_eq_true h5
                conv => whnf
                exact esc (by simp [escB]; omega)
              · have h5 := of_decide_eq_false h5
                conv => whnf
                refine branch_of (fun h6 => ?_) (fun h6 => absurd (of_decide_eq_false h6) (by simp [h2]))
                conv => whnf
                refine fin0 ?_ trivial
                rw [he, textGo_bad (by omega) (.inl ⟨by omega, by simp [headB, escB]; omega⟩)]; rfl
          · have h3 := of_decide_eq_false h3
            rw [wr (by omega) (by omega)] at h3
            conv => whnf
            refine branch_of (fun h6 => ?_) (fun h6 => absurd (of_decide_eq_false h6) (by simp [h2]))
            conv => whnf
            refine fin0 ?_ trivial
            have : s.drop (k + 1) = [] := List.drop_eq_nil_iff.2 (by omega)
            rw [he, textGo_bad (by omega) (.inl ⟨by omega, by rw [this]; rfl⟩)]; rfl
        · have h2 := of_decide_eq_false h2
          conv => whnf
          refine branch_of (fun h6 => absurd (of_decide_eq_true h6) (by simp [h2])) (fun h6 => ?_)
          conv => whnf
          refine branch_of (fun h3 => ?_) (fun h3 => ?_)
          · have h3 := of_decide_eq_true h3
            conv => whnf
            refine fin0 ?_ trivial
            rw [he, textGo_bad (by omega) (.inr (by simp only [plainB, inB_no]; omega))]; rfl
          · have h3 := of_decide_eq_false h3
            conv => whnf
            refine branch_of (fun h4 => ?_) (fun h4 => ?_)
            · have h4 := of_decide_eq_true h4
              conv => whnf
              refine fin0 ?_ trivial
              rw [he, textGo_bad (by omega) (.inr (by simp only [plainB, inB_no]; omega))]; rfl
            · have h4 := of_decide_eq_false h4
              conv => whnf
              rw [textGo_step (by omega) (by omega) (by simp only [plainB, inB_iff]; omega)] at he
              refine ⟨s.length + 1 - (k + 1), by omega, k + 1, rfl, by omega, by omega, he, ?_⟩
              rw [wr (by omega) (by omega)]; rfl
    · have h := of_decide_eq_false h
      conv => whnf
      refine fin0 ?_ trivial
      have : s.drop k = [] := List.drop_eq_nil_iff.2 (by omega)
      rw [he, this]; rfl
end Go.PV
