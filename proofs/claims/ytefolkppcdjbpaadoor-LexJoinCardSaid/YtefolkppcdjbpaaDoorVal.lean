/- Part of the proof of LexJoin. -/
import Derived.Test.YtefolkppcdjbpaaDoorBase
namespace Go.PV
open Go Go.Proofs
set_option maxRecDepth 100000
theorem vsmall_good (c : UInt8) : Good Tryd.prog 68 [.int .u8 c.toNat] [] [.bool (smallB c)] [] := by
  refine good_of hP Tryd.func68 (by kernel_rfl) (lv := [0, 2]) (js := []) ⟨rfl, rfl, rfl, rfl, rfl, rfl, _, rfl, ?_⟩
  repeat' (conv => whnf); refine branch_of (fun _ => ?_) (fun _ => ?_)
  all_goals (conv => whnf); exact fin0 (by simp_all [smallB, inB] <;> first | omega | (rw [Bool.eq_iff_iff]; simp; omega)) trivial
theorem vlarge_good (c : UInt8) : Good Tryd.prog 69 [.int .u8 c.toNat] [] [.bool (largeB c)] [] := by
  refine good_of hP Tryd.func69 (by kernel_rfl) (lv := [0, 2]) (js := []) ⟨rfl, rfl, rfl, rfl, rfl, rfl, _, rfl, ?_⟩
  repeat' (conv => whnf); refine branch_of (fun _ => ?_) (fun _ => ?_)
  all_goals (conv => whnf); exact fin0 (by simp_all [largeB, inB] <;> first | omega | (rw [Bool.eq_iff_iff]; simp; omega)) trivial
theorem vdigit_good (c : UInt8) : Good Tryd.prog 32 [.int .u8 c.toNat] [] [.bool (digitB c)] [] := by
  refine good_of hP Tryd.func32 (by kernel_rfl) (lv := [0, 2]) (js := []) ⟨rfl, rfl, rfl, rfl, rfl, rfl, _, rfl, ?_⟩
  repeat' (conv => whnf); refine branch_of (fun _ => ?_) (fun _ => ?_)
  all_goals (conv => whnf); exact fin0 (by simp_all [digitB, inB] <;> first | omega | (rw [Bool.eq_iff_iff]; simp; omega)) trivial
theorem plain_good (s : Bs) (hs : s.length ≤ 4611686018427387904) : Good Tryd.prog 61 [.str s] [] [.bool (plainS s)] [] := by
  refine good_of hP Tryd.func61 (by kernel_rfl) (lv := [0, 2, 3, 5, 6, 7, 18]) (js := []) ⟨rfl, rfl, rfl, rfl, rfl, rfl, _, rfl, ?_⟩
  conv => whnf
  refine loop_of hP [0, 2, 3, 5, 6, 7, 18] [] [0, 2, 5, 6] [] [] (fun n st => ∃ k : Nat, n = s.length - k ∧ k ≤ s.length ∧ s.all plainB = (s.drop k).all plainB ∧ st = ⟨[(0, .str s), (2, .bool false), (5, .int .i64 s.length), (6, .int .i64 k)], []⟩) s.length ?_ ?_
  · conv => whnf
    exact ⟨0, rfl, Nat.zero_le _, rfl, rfl⟩
  · rintro n st ⟨k, rfl, hk, he, rfl⟩
    conv => whnf
    refine branch_of (fun h => ?_) (fun h => ?_)
    · conv => whnf
      have hk' : k < s.length := by simpa using h
      rw [all_drop hk'] at he
      refine ⟨s[k], ⟨by omega, by simp [hk']⟩, ?_⟩
      conv => whnf
      refine branch_of (fun h1 => ?_) (fun h1 => ?_)
      · conv => whnf
        refine fin0 ?_ trivial
        have : plainB s[k] = false := by simp only [plainB, inB_no]; simp at h1; omega
        rw [plainS, he, this]; simp
      · conv => whnf
        refine ⟨s[k], ⟨by omega, by simp [hk']⟩, ?_⟩
        conv => whnf
        refine branch_of (fun h2 => ?_) (fun h2 => ?_)
        · conv => whnf
          refine fin0 ?_ trivial
          have : plainB s[k] = false := by simp only [plainB, inB_no]; simp at h2; omega
          rw [plainS, he, this]; simp
        · conv => whnf
          have : plainB s[k] = true := by simp only [plainB, inB_iff]; simp at h1 h2; omega
          rw [this, Bool.true_and] at he
          refine ⟨s.length - (k + 1), by omega, k + 1, rfl, by omega, he, ?_⟩
          rw [wr (by omega) (by omega)]; rfl
    · conv => whnf
      refine fin0 ?_ trivial
      have : s.drop k = [] := by simp at h; exact List.drop_eq_nil_iff.2 (by omega)
      rw [plainS, he, this]; simp; omega
theorem symbol_good (s : Bs) (hs : s.length ≤ 4611686018427387904) : Good Tryd.prog 60 [.str s] [] [.bool (symbolS s)] [] := by
  refine good_of hP Tryd.func60 (by kernel_rfl) (lv := [0, 2, 3, 17, 19, 20, 21, 47]) (js := []) ⟨rfl, rfl, rfl, rfl, rfl, rfl, _, rfl, ?_⟩
  conv => whnf
  refine branch_of (fun h0 => ?_) (fun h0 => ?_)
  · conv => whnf
    refine fin0 ?_ trivial
    have : s = [] := by simp at h0; exact List.eq_nil_of_length_eq_zero (by omega)
    subst this; rfl
  conv => whnf
  refine branch_of (fun h1 => ?_) (fun h1 => ?_)
  · conv => whnf
    refine fin0 ?_ trivial
    have : decide (s.length ≤ 24) = false := by simp at h1 ⊢; omega
    simp [symbolS, this]
  conv => whnf
  have h0' : 0 < s.length := by simp at h0; omega
  have h1' : s.length ≤ 24 := by simp at h1; omega
  refine ⟨s[0], ⟨by omega, by simp [h0']⟩, ?_⟩
  conv => whnf
  refine call0 (vsmall_good _) ?_
  conv => whnf
  obtain ⟨c, r, hs0, hc⟩ := head_at h0'
  rw [hc]
  have hsym : symbolS s = (smallB c && s.all letterB) := by
    unfold symbolS
    have e1 : decide (1 ≤ s.length) = true := by simp; omega
    have e2 : decide (s.length ≤ 24) = true := by simp; omega
    rw [e1, e2, hs0]; simp
  rw [hsym]
  cases hsm : smallB c with
  | false =>
    conv => whnf
    exact fin0 rfl trivial
  | true =>
  conv => whnf
  refine loop_of hP [0, 2, 3, 17, 19, 20, 21, 47] [] [0, 2, 19, 20] [] [] (fun n st => ∃ k : Nat, n = s.length - k ∧ k ≤ s.length ∧ s.all letterB = (s.drop k).all letterB ∧ st = ⟨[(0, .str s), (2, .bool false), (19, .int .i64 s.length), (20, .int .i64 k)], []⟩) s.length ?_ ?_
  · conv => whnf
    exact ⟨0, rfl, Nat.zero_le _, rfl, rfl⟩
  · rintro n st ⟨k, rfl, hk, he, rfl⟩
    conv => whnf
    refine branch_of (fun h => ?_) (fun h => ?_)
    · conv => whnf
      have hk' : k < s.length := by simpa using h
      rw [all_drop hk'] at he
      refine ⟨s[k], ⟨by omega, by simp [hk']⟩, ?_⟩
      conv => whnf
      refine call0 (vsmall_good _) ?_
      conv => whnf
      have next : letterB s[k] = true → ∃ m, m < s.length - k ∧ ∃ k' : Nat, m = s.length - k' ∧ k' ≤ s.length ∧ s.all letterB = (s.drop k').all letterB ∧ (⟨[(0, .str s), (2, .bool false), (19, .int .i64 s.length), (20, .int .i64 (IntKind.i64.wrap (k + 1)))], []⟩ : St) = ⟨[(0, .str s), (2, .bool false), (19, .int .i64 s.length), (20, .int .i64 k')], []⟩ := fun hl => by
        rw [hl, Bool.true_and] at he
        exact ⟨s.length - (k + 1), by omega, k + 1, rfl, by omega, he, by rw [wr (by omega) (by omega)]; rfl⟩
      cases a1 : smallB s[k] with
      | true => conv => whnf
                exact next (by simp [letterB, a1])
      | false =>
      conv => whnf
      refine ⟨s[k], ⟨by omega, by simp [hk']⟩, ?_⟩
      conv => whnf
      refine call0 (vlarge_good _) ?_
      conv => whnf
      cases a2 : largeB s[k] with
      | true => conv => whnf
                exact next (by simp [letterB, a2])
      | false =>
      conv => whnf
      refine ⟨s[k], ⟨by omega, by simp [hk']⟩, ?_⟩
      conv => whnf
      refine call0 (vdigit_good _) ?_
      conv => whnf
      cases a3 : digitB s[k] with
      | true => conv => whnf
                exact next (by simp [letterB, a3])
      | false =>
      conv => whnf
      refine ⟨s[k], ⟨by omega, by simp [hk']⟩, ?_⟩
      conv => whnf
      refine branch_of (fun h2 => ?_) (fun h2 => ?_)
      · conv => whnf
        refine fin0 ?_ trivial
        have : letterB s[k] = false := by simp [letterB, a1, a2, a3]; simp at h2; omega
        rw [he, this]; simp
      · conv => whnf
        exact next (by simp [letterB]; simp at h2; omega)
    · conv => whnf
      refine fin0 ?_ trivial
      have : s.drop k = [] := by simp at h; exact List.drop_eq_nil_iff.2 (by omega)
      rw [he, this]; simp
theorem check_good (v : Val) (hs : v.s.length ≤ 4611686018427387904) : Good Tryd.prog 46 [.agg v.c] [] [.int .i64 (if checkS v then 0 else 1)] [] := by
  refine good_of hP Tryd.func46 (by kernel_rfl) (lv := [0, 1, 2, 3, 5, 6, 21, 31, 42]) (js := []) ⟨rfl, rfl, rfl, rfl, rfl, rfl, _, rfl, ?_⟩
  obtain ⟨k, n, s⟩ := v
  dsimp only at hs
  conv => whnf
  refine branch_of (fun h => ?_) (fun h => ?_)
  · have hk : k = 1 := by simpa using h
    subst hk
    conv => whnf
    refine branch_of (fun h1 => ?_) (fun h1 => ?_)
    · conv => whnf
      refine branch_of (fun h2 => ?_) (fun h2 => ?_)
      · conv => whnf
        refine branch_of (fun h3 => ?_) (fun h3 => ?_)
        all_goals conv => whnf
        all_goals refine fin0 ?_ trivial
        all_goals simp [checkS, inR]
        all_goals simp at h1 h2 h3
        all_goals simp [h1, h2, h3]
      · conv => whnf
        refine fin0 ?_ trivial
        simp [checkS, inR]
        simp at h1 h2
        omega
    · conv => whnf
      refine fin0 ?_ trivial
      simp [checkS, inR]
      simp at h1
      omega
  · have hk : k ≠ 1 := by simpa using h
    conv => whnf
    refine branch_of (fun h => ?_) (fun h => ?_)
    · have hk : k = 2 := by simpa using h
      subst hk
      conv => whnf
      refine branch_of (fun h1 => ?_) (fun h1 => ?_)
      · conv => whnf
        refine call0 (symbol_good s hs) ?_
        conv => whnf
        simp at h1
        cases h2 : symbolS s
        all_goals conv => whnf
        all_goals refine fin0 ?_ trivial
        all_goals simp [checkS, h1, h2]
      · conv => whnf
        refine fin0 ?_ trivial
        simp at h1
        simp [checkS, h1]
    · have hk2 : k ≠ 2 := by simpa using h
      conv => whnf
      refine branch_of (fun h => ?_) (fun h => ?_)
      · have hk : k = 3 := by simpa using h
        subst hk
        conv => whnf
        refine branch_of (fun h1 => ?_) (fun h1 => ?_)
        · conv => whnf
          refine call0 (plain_good s hs) ?_
          conv => whnf
          simp at h1
          cases h2 : plainS s
          all_goals conv => whnf
          all_goals refine fin0 ?_ trivial
          all_goals simp [checkS, h1, h2]
        · conv => whnf
          refine fin0 ?_ trivial
          simp at h1
          simp [checkS, h1]
      · have hk3 : k ≠ 3 := by simpa using h
        conv => whnf
        refine fin0 ?_ trivial
        simp [checkS, hk, hk2, hk3]
theorem quoted_good (s : Bs) (hs : s.length ≤ 1000000) : Good Tryd.prog 48 [.str s] [] [.str (quotedS s)] [] := by
  refine good_of hP Tryd.func48 (by kernel_rfl) (lv := [0, 2, 3, 4, 7, 8, 9, 20]) (js := []) ⟨rfl, rfl, rfl, rfl, rfl, rfl, _, rfl, ?_⟩
  conv => whnf
  refine loop_of hP [0, 2, 3, 4, 7, 8, 9, 20] [] [0, 2, 3, 7, 8] [69] [] (fun n st => ∃ k : Nat, n = s.length - k ∧ k ≤ s.length ∧ st = ⟨[(0, .str s), (2, .str []), (3, .own 69 0), (7, .int .i64 s.length), (8, .int .i64 k)], [(69, .arr 0 false 1 (bytesX (34 :: (s.take k).flatMap quoteB)))]⟩) s.length ?_ ?_
  · conv => whnf
    exact ⟨0, rfl, Nat.zero_le _, rfl⟩
  · rintro n st ⟨k, rfl, hk, rfl⟩
    have hl := flatMap_len (s.take k)
    have hl2 : (bytesX (34 :: (s.take k).flatMap quoteB)).length ≤ 2 * k + 1 := by rw [bytesX_len, List.length_cons]; rw [List.length_take] at hl; omega
    conv => whnf
    refine branch_of (fun h => ?_) (fun h => ?_)
    · conv => whnf
      have hk' : k < s.length := by simpa using h
      refine ⟨s[k], ⟨by omega, by simp [hk']⟩, ?_⟩
      have last : escB s[k] = true → bytesX (34 :: (s.take k).flatMap quoteB) ++ [[V.int .u8 92]] ++ [[V.int .u8 s[k].toNat]] = bytesX (34 :: (s.take (k + 1)).flatMap quoteB) := fun h => by
        rw [flatMap_snoc s hk', show ([[V.int .u8 92]] : List (List V)) = bytesX [92] from rfl, bytesX_app, bytesX_snoc]; simp [quoteB, h]
      have last2 : escB s[k] = false → bytesX (34 :: (s.take k).flatMap quoteB) ++ [[V.int .u8 s[k].toNat]] = bytesX (34 :: (s.take (k + 1)).flatMap quoteB) := fun h => by
        rw [flatMap_snoc s hk', bytesX_snoc]; simp [quoteB, h]
      conv => whnf
      refine branch_of (fun h1 => ?_) (fun h1 => ?_)
      · conv => whnf
        refine ⟨⟨⟩, by dsimp only; simp only [List.length_cons, List.length_nil]; omega, ?_⟩
        conv => whnf
        refine ⟨s[k], ⟨by omega, by simp [hk']⟩, ?_⟩
        conv => whnf
        refine ⟨⟨⟩, by dsimp only; simp only [List.length_append, List.length_cons, List.length_nil]; omega, ?_⟩
        conv => whnf
        refine ⟨s.length - (k + 1), by omega, k + 1, rfl, by omega, ?_⟩
        rw [wr (by omega) (by omega), ← last (by simp [escB]; simp at h1; omega)]; rfl
      · conv => whnf
        refine ⟨s[k], ⟨by omega, by simp [hk']⟩, ?_⟩
        conv => whnf
        refine branch_of (fun h2 => ?_) (fun h2 => ?_)
        · conv => whnf
          refine ⟨⟨⟩, by dsimp only; simp only [List.length_cons, List.length_nil]; omega, ?_⟩
          conv => whnf
          refine ⟨s[k], ⟨by omega, by simp [hk']⟩, ?_⟩
          conv => whnf
          refine ⟨⟨⟩, by dsimp only; simp only [List.length_append, List.length_cons, List.length_nil]; omega, ?_⟩
          conv => whnf
          refine ⟨s.length - (k + 1), by omega, k + 1, rfl, by omega, ?_⟩
          rw [wr (by omega) (by omega), ← last (by simp [escB]; simp at h2; omega)]; rfl
        · conv => whnf
          refine ⟨s[k], ⟨by omega, by simp [hk']⟩, ?_⟩
          conv => whnf
          refine ⟨⟨⟩, by dsimp only; simp only [List.length_append, List.length_cons, List.length_nil]; omega, ?_⟩
          conv => whnf
          refine ⟨s.length - (k + 1), by omega, k + 1, rfl, by omega, ?_⟩
          rw [wr (by omega) (by omega), ← last2 (by simp [escB]; simp at h1 h2; omega)]; rfl
    · conv => whnf
      refine ⟨⟨⟩, by dsimp only; simp only [List.length_cons, List.length_nil]; omega, ?_⟩
      conv => whnf
      have e : bytesX (34 :: (s.take k).flatMap quoteB) ++ [[V.int .u8 34]] = bytesX (quotedS s) := by
        have : k = s.length := by simp at h; omega
        rw [show ([[V.int .u8 34]] : List (List V)) = bytesX [34] from rfl, bytesX_app, this, List.take_length]; rfl
      rw [e]
      refine ⟨⟨⟩, bytesX_mem _, ?_⟩
      rw [bytesX_back]
      conv => whnf
      exact fin0 rfl trivial
theorem mid_drop (s : Bs) {k : Nat} (h : k + 1 < s.length) : (s.drop k).take (s.length - 1 - k) = s[k] :: (s.drop (k + 1)).take (s.length - 1 - (k + 1)) := by
  rw [drop_cons (by omega), show s.length - 1 - k = (s.length - 1 - (k + 1)) + 1 by omega, List.take_succ_cons]
theorem bareM_end (c : UInt8) {r : Bs} (h : r = []) : bareM (c :: r) = [c] := by subst h; rfl
theorem bareM_no {c : UInt8} (h : c.toNat ≠ 92) (r : Bs) : bareM (c :: r) = c :: bareM r := by
  cases r with
  | nil => rfl
  | cons d r => simp [bareM, h]
theorem bareM_esc {c : UInt8} (h : c.toNat = 92) (d : UInt8) (r : Bs) : bareM (c :: d :: r) = d :: bareM r := by simp [bareM, h]
theorem bare_good (s : Bs) (hs : s.length ≤ 1000000) : Good Tryd.prog 31 [.str s] [] [.str (bareS s)] [] := by
  refine good_of hP Tryd.func31 (by kernel_rfl) (lv := [0, 2, 3, 4, 9, 23]) (js := []) ⟨rfl, rfl, rfl, rfl, rfl, rfl, _, rfl, ?_⟩
  conv => whnf
  refine loop_of hP [0, 2, 3, 4, 9, 23] [] [0, 2, 3, 4] [67] [.slot 3 1] (fun n st => ∃ (k : Nat) (out : Bs), n = s.length + 1 - k ∧ 1 ≤ k ∧ (k ≤ s.length ∨ k = 1) ∧ out.length + 1 ≤ k ∧ bareS s = out ++ bareM ((s.drop k).take (s.length - 1 - k)) ∧ st = ⟨[(0, .str s), (2, .str []), (3, .own 67 0), (4, .int .i64 k)], [(67, .arr 0 false 1 (bytesX out))]⟩) s.length ?_ ?_
  · conv => whnf
    exact ⟨1, [], by omega, by omega, .inr rfl, Nat.le_refl _, by unfold bareS; rw [Nat.sub_sub]; rfl, rfl⟩
  · rintro n st ⟨k, out, rfl, hk0, hk, hout, he, rfl⟩
    have hxl := bytesX_len out
    conv => whnf
    refine branch_of (fun h => ?_) (fun h => ?_)
    · conv => whnf
      simp at h
      rw [wr (by omega) (by omega)] at h
      have hk' : k < s.length := by omega
      rw [mid_drop s (by omega)] at he
      refine ⟨s[k], ⟨by omega, by simp [hk']⟩, ?_⟩
      conv => whnf
      refine branch_of (fun h1 => ?_) (fun h1 => ?_)
      · conv => whnf
        simp at h1
        refine branch_of (fun h2 => ?_) (fun h2 => ?_)
        · conv => whnf
          simp at h2
          rw [wr (by omega) (by omega), wr (by omega) (by omega)] at h2
          have hk2 : k + 1 < s.length := by omega
          rw [wr (by omega) (by omega)]
          refine ⟨s[k + 1], ⟨by omega, by simp [hk2]⟩, ?_⟩
          conv => whnf
          refine ⟨⟨⟩, by dsimp only; simp only [List.length_cons, List.length_nil]; omega, ?_⟩
          conv => whnf
          rw [mid_drop s (by omega), bareM_esc (by omega)] at he
          refine ⟨s.length + 1 - (k + 2), by omega, k + 2, out ++ [s[k + 1]], rfl, by omega, by omega, by simp; omega, by rw [he]; simp, ?_⟩
          rw [wr (by omega) (by omega), ← bytesX_snoc]; rfl
        · conv => whnf
          simp at h2
          rw [wr (by omega) (by omega), wr (by omega) (by omega)] at h2
          refine ⟨s[k], ⟨by omega, by simp [hk']⟩, ?_⟩
          conv => whnf
          refine ⟨⟨⟩, by dsimp only; simp only [List.length_cons, List.length_nil]; omega, ?_⟩
          conv => whnf
          have hz : s.length - 1 - (k + 1) = 0 := by omega
          rw [bareM_end _ (by rw [hz]; simp)] at he
          refine ⟨s.length + 1 - (k + 1), by omega, k + 1, out ++ [s[k]], rfl, by omega, by omega, by simp; omega, by rw [he, hz]; simp [bareM], ?_⟩
          rw [wr (by omega) (by omega), ← bytesX_snoc]; rfl
      · conv => whnf
        simp at h1
        refine ⟨s[k], ⟨by omega, by simp [hk']⟩, ?_⟩
        conv => whnf
        refine ⟨⟨⟩, by dsimp only; simp only [List.length_cons, List.length_nil]; omega, ?_⟩
        conv => whnf
        rw [bareM_no (by omega)] at he
        refine ⟨s.length + 1 - (k + 1), by omega, k + 1, out ++ [s[k]], rfl, by omega, by omega, by simp; omega, by rw [he]; simp, ?_⟩
        rw [wr (by omega) (by omega), ← bytesX_snoc]; rfl
    · conv => whnf
      refine ⟨⟨⟩, bytesX_mem _, ?_⟩
      rw [bytesX_back]
      conv => whnf
      refine fin0 ?_ trivial
      simp at h
      rw [wr (by omega) (by omega)] at h
      have : s.length - 1 - k = 0 := by omega
      rw [he, this]; simp [bareM]
def errnoB (e : Int) (b : Bool) : Int := if b then 0 else e
theorem text_good (v : Val) (hs : v.s.length ≤ 1000000) : Good Tryd.prog 34 [.agg v.c] [] [.str (textV v), .int .i64 (if checkS v then 0 else 1)] [] := by
  refine good_of hP Tryd.func34 (by kernel_rfl) (lv := [0, 1, 2, 3, 4, 7, 11, 18]) (js := []) ⟨rfl, rfl, rfl, rfl, rfl, rfl, _, rfl, ?_⟩
  conv => whnf
  refine call0 (check_good v (by omega)) ?_
  obtain ⟨k, n, s⟩ := v
  dsimp only at hs
  cases hc : checkS ⟨k, n, s⟩ with
  | false =>
    conv => whnf
    exact fin0 (by simp [textV, hc]) trivial
  | true =>
    conv => whnf
    refine branch_of (fun h => ?_) (fun h => ?_)
    · have hk : k = 1 := by simpa using h
      subst hk
      have hn : inR n = true := by simp [checkS] at hc; exact hc.1
      simp [inR] at hn
      conv => whnf
      refine call0 (itoa_good n (by omega) (by omega)) ?_
      conv => whnf
      exact fin0 (by simp [textV, hc]) trivial
    · have hk : k ≠ 1 := by simpa using h
      conv => whnf
      refine branch_of (fun h => ?_) (fun h => ?_)
      · have hk2 : k = 2 := by simpa using h
        subst hk2
        conv => whnf
        exact fin0 (by simp [textV, hc]) trivial
      · have hk2 : k ≠ 2 := by simpa using h
        conv => whnf
        refine call0 (quoted_good s hs) ?_
        conv => whnf
        exact fin0 (by simp [textV, hc, hk, hk2]) trivial
theorem bareM_len (s : Bs) : (bareM s).length ≤ s.length := by
  induction s using bareM.induct with
  | case1 => simp [bareM]
  | case2 => simp [bareM]
  | case3 c d r h ih => rw [bareM_esc h]; simp; omega
  | case4 c d r h ih => rw [bareM_no h]; simp at ih ⊢; omega
theorem bareS_len (s : Bs) : (bareS s).length ≤ s.length := by
  have := bareM_len ((s.drop 1).take (s.length - 2))
  unfold bareS
  simp at this ⊢; omega
theorem parse_good (s : Bs) (hs : s.length ≤ 1000000) : Good Tryd.prog 23 [.str s] [] [.agg ((parseS s).getD zeroV).c, .int .i64 (if (parseS s).isSome then 0 else 7)] [] := by
  refine good_of hP Tryd.func23 (by kernel_rfl) (lv := [0, 2, 3, 4, 5, 6, 7, 8, 11, 15, 22, 37, 52]) (js := [200006, 100000]) ⟨rfl, rfl, rfl, rfl, rfl, rfl, _, rfl, ?_⟩
  conv => whnf
  refine seq_of hP [0, 2, 3, 4, 5, 6, 7, 8, 11, 15, 22, 37, 52] [200006, 100000] [0, 2, 3, 4] [66, 68] [] (fun st => ∃ v : Val, guessS s = some v ∧ v.s.length ≤ s.length ∧ st = ⟨[(0, .str s), (2, .ptr 66 0 0), (3, .int .i64 0), (4, .ptr 68 0 0)], [(66, .box 0 zeroV.c), (68, .box 0 v.c)]⟩) ?_ ?_
  · conv => whnf
    refine branch_of (fun h => ?_) (fun h => ?_)
    · have hs0 : s = [] := by simpa using h
      conv => whnf
      refine fin0 ?_ trivial
      subst hs0; rfl
    · have hs0 : s ≠ [] := by simpa using h
      have hl : 0 < s.length := List.length_pos_iff.2 hs0
      obtain ⟨c, r, hcr, hc⟩ := head_at hl
      conv => whnf
      refine ⟨c, ⟨by omega, by rw [hcr]; rfl⟩, ?_⟩
      have hg : guessS s = if c.toNat = 34 then some ⟨3, 0, bareS s⟩ else if c.toNat = 45 ∨ digitB c then (if atoiOk s then some ⟨1, atoiN s, []⟩ else none) else some ⟨2, 0, s⟩ := by
        rw [hcr]; rfl
      conv => whnf
      refine branch_of (fun h => ?_) (fun h => ?_)
      · conv => whnf
        simp at h
        refine call0 (bare_good s hs) ?_
        conv => whnf
        refine ⟨⟨3, 0, bareS s⟩, by rw [hg, if_pos (by omega)], bareS_len s, rfl⟩
      · simp at h
        rw [if_neg (by omega)] at hg
        conv => whnf
        refine seq_of hP [0, 2, 3, 4, 5, 6, 7, 8, 11, 15, 22, 37, 52] [200006, 100000] [0, 2, 3, 4, 22] [66, 68] [] (fun st => st = ⟨[(0, .str s), (2, .ptr 66 0 0), (3, .int .i64 0), (4, .ptr 68 0 0), (22, .bool (decide (c.toNat = 45 ∨ digitB c)))], [(66, .box 0 zeroV.c), (68, .box 0 (Val.c ⟨2, 0, s⟩))]⟩) ?_ ?_
        · conv => whnf
          refine ⟨c, ⟨by omega, by rw [hcr]; rfl⟩, ?_⟩
          conv => whnf
          refine branch_of (fun h2 => ?_) (fun h2 => ?_)
          · conv => whnf
            have h2 : c.toNat = 45 := by simp at h2; omega
            simp only [h2, true_or, decide_true]; rfl
          · conv => whnf
            refine ⟨c, ⟨by omega, by rw [hcr]; rfl⟩, ?_⟩
            conv => whnf
            refine call0 (vdigit_good _) ?_
            conv => whnf
            have h2 : c.toNat ≠ 45 := by simp at h2; omega
            simp only [h2, false_or, Bool.decide_eq_true]; rfl
        · rintro st rfl
          conv => whnf
          refine branch_of (fun h2 => ?_) (fun h2 => ?_)
          · rw [if_pos (of_decide_eq_true h2)] at hg
            conv => whnf
            refine call0 (atoi_good s (by omega)) ?_
            cases ha : atoiOk s with
            | true =>
              rw [ha, if_pos rfl] at hg
              conv => whnf
              exact ⟨_, hg, Nat.zero_le _, rfl⟩
            | false =>
              rw [ha, if_neg (by simp)] at hg
              conv => whnf
              refine fin0 ?_ trivial
              simp [parseS, hg, zeroV]
          · rw [if_neg (of_decide_eq_false h2)] at hg
            conv => whnf
            exact ⟨_, hg, Nat.le_refl _, rfl⟩
  · rintro st ⟨⟨k, n, t⟩, hv, hl, rfl⟩
    dsimp only at hl
    conv => whnf
    refine call0 (text_good ⟨k, n, t⟩ (by dsimp only; omega)) ?_
    cases hc : checkS ⟨k, n, t⟩ with
    | false =>
      conv => whnf
      refine fin0 ?_ trivial
      simp [parseS, hv, hc, zeroV]
    | true =>
      conv => whnf
      refine branch_of (fun h => ?_) (fun h => ?_)
      · have h : textV ⟨k, n, t⟩ ≠ s := by simpa using h
        conv => whnf
        refine fin0 ?_ trivial
        simp [parseS, hv, hc, h, zeroV]
      · have h : textV ⟨k, n, t⟩ = s := by simpa using h
        conv => whnf
        refine fin0 ?_ trivial
        simp [parseS, hv, hc, h, zeroV]
end Go.PV
