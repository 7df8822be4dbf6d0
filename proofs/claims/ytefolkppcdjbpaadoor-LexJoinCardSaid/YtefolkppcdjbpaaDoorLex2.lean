/- Part of the proof of LexJoin. -/
import Derived.Test.YtefolkppcdjbpaaDoorLex
namespace Go.PV
open Go Go.Proofs
set_option maxRecDepth 100000
theorem indexByte_mem (l : Bs) (c : UInt8) : 0 ≤ Lib.indexByte l c ↔ c ∈ l := by
  induction l with
  | nil => simp [Lib.indexByte]
  | cons b l ih =>
    simp only [Lib.indexByte, List.mem_cons]
    by_cases h : b = c
    · simp [h]
    · have h' : ¬ c = b := fun e => h e.symm
      simp only [beq_iff_eq, h, h', if_false, false_or]
      split
      · rename_i e; rw [e] at ih; simp at ih ⊢; exact ih
      · rename_i e
        rw [← ih]
        have : -1 ≤ Lib.indexByte l c := by
          clear ih e h h'
          induction l with
          | nil => simp [Lib.indexByte]
          | cons b l ih => simp only [Lib.indexByte]; split
                           · omega
                           · split <;> omega
        omega
theorem sign_good (s : Bs) (hs : s ≠ []) : Good Tryd.prog 24 [.str s] [] [.int .i64 (signS s)] [] := by
  refine good_of hP Tryd.func24 (by kernel_rfl) (lv := [0, 2, 4, 5, 6, 7, 8, 13, 20]) (js := []) ⟨rfl, rfl, rfl, rfl, rfl, rfl, _, rfl, ?_⟩
  conv => whnf
  refine loop_of hP [0, 2, 4, 5, 6, 7, 8, 13, 20] [] [0, 2, 5, 6, 7] [69] [] (fun n st => ∃ k : Nat, n = 4 - k ∧ k ≤ 4 ∧ (0 < k → hasP s [33, 61] = false) ∧ (1 < k → hasP s [60, 61] = false) ∧ (2 < k → hasP s [45, 62] = false) ∧ (3 < k → hasP s [61, 62] = false) ∧ st = ⟨[(0, .str s), (2, .int .i64 0), (5, .own 69 0), (6, .int .i64 4), (7, .int .i64 k)], [(69, .arr 0 false 1 [[.str [33, 61]], [.str [60, 61]], [.str [45, 62]], [.str [61, 62]]])]⟩) 4 ?_ ?_
  · conv => whnf
    exact ⟨0, rfl, by omega, by omega, by omega, by omega, by omega, rfl⟩
  · rintro n st ⟨k, rfl, hk, h0, h1, h2, h3, rfl⟩
    have hl : 0 < s.length := List.length_pos_iff.2 hs
    match k, hk with
    | 0, _ =>
      conv => whnf
      refine ⟨⟨⟩, by decide, ?_⟩
      conv => whnf
      refine ⟨_, rfl, ?_⟩
      conv => whnf
      refine call0 (hasPrefix_good s [33, 61]) ?_
      cases h : hasP s [33, 61] with
      | true => conv => whnf
                exact fin0 (by simp [signS, h]) trivial
      | false =>
        conv => whnf
        exact ⟨3, by omega, 1, rfl, by omega, fun _ => rfl, by omega, by omega, by omega, rfl⟩
    | 1, _ =>
      conv => whnf
      refine ⟨⟨⟩, by decide, ?_⟩
      conv => whnf
      refine ⟨_, rfl, ?_⟩
      conv => whnf
      refine call0 (hasPrefix_good s [60, 61]) ?_
      cases h : hasP s [60, 61] with
      | true => conv => whnf
                exact fin0 (by simp [signS, h]) trivial
      | false =>
        conv => whnf
        exact ⟨2, by omega, 2, rfl, by omega, h0 ∘ by omega, fun _ => rfl, by omega, by omega, rfl⟩
    | 2, _ =>
      conv => whnf
      refine ⟨⟨⟩, by decide, ?_⟩
      conv => whnf
      refine ⟨_, rfl, ?_⟩
      conv => whnf
      refine call0 (hasPrefix_good s [45, 62]) ?_
      cases h : hasP s [45, 62] with
      | true => conv => whnf
                exact fin0 (by simp [signS, h]) trivial
      | false =>
        conv => whnf
        exact ⟨1, by omega, 3, rfl, by omega, h0 ∘ by omega, h1 ∘ by omega, fun _ => rfl, by omega, rfl⟩
    | 3, _ =>
      conv => whnf
      refine ⟨⟨⟩, by decide, ?_⟩
      conv => whnf
      refine ⟨_, rfl, ?_⟩
      conv => whnf
      refine call0 (hasPrefix_good s [61, 62]) ?_
      cases h : hasP s [61, 62] with
      | true => conv => whnf
                exact fin0 (by simp [signS, h]) trivial
      | false =>
        conv => whnf
        exact ⟨0, by omega, 4, rfl, by omega, h0 ∘ by omega, h1 ∘ by omega, h2 ∘ by omega, fun _ => rfl, rfl⟩
    | 4, _ =>
      have h0 := h0 (by omega)
      have h1 := h1 (by omega)
      have h2 := h2 (by omega)
      have h3 := h3 (by omega)
      conv => whnf
      refine ⟨s[0], idx hl rfl, ?_⟩
      conv => whnf
      refine call0 (indexByte_good signs1 s[0]) ?_
      obtain ⟨c, r, hcr, hc⟩ := head_at hl
      rw [hc]
      have hsg : signS s = if c ∈ signs1 then 1 else 0 := by
        unfold signS
        rw [h0, h1, h2, h3, hcr]; simp
      conv => whnf
      refine branch_of (fun h => ?_) (fun h => ?_)
      · have h := (indexByte_mem signs1 c).1 (of_decide_eq_true h)
        conv => whnf
        exact fin0 (by rw [hsg, if_pos h]; rfl) trivial
      · have h := fun e => of_decide_eq_false h ((indexByte_mem signs1 c).2 e)
        conv => whnf
        exact fin0 (by rw [hsg, if_neg h]; rfl) trivial
/-- the reader at a byte -/
def rd (s : Bs) (i : Nat) : Ob := .box 0 [.str s, .int .i64 i, .int .i64 (posS (s.take i)).1, .int .i64 (posS (s.take i)).2]
theorem pass_good (s : Bs) (i n : Nat) (hs : s.length ≤ 1000000) (hi : i + n ≤ s.length) : Good Tryd.prog 12 [.ptr 0 0 0, .int .i64 n] [rd s i] [] [rd s (i + n)] := by
  refine good_of hP Tryd.func12 (by kernel_rfl) (lv := [0, 1, 4, 5, 6, 25]) (js := []) ⟨rfl, rfl, rfl, rfl, rfl, rfl, _, rfl, ?_⟩
  conv => whnf
  refine loop_of hP [0, 1, 4, 5, 6, 25] [] [0, 4, 5] [] [] (fun m st => ∃ k : Nat, m = n - k ∧ k ≤ n ∧ st = ⟨[(0, .ptr 0 0 0), (4, .int .i64 n), (5, .int .i64 k)], [(0, rd s (i + k))]⟩) n ?_ ?_
  · conv => whnf
    exact ⟨0, rfl, Nat.zero_le _, rfl⟩
  · rintro m st ⟨k, rfl, hk, rfl⟩
    have hp := posS_le s (i + k) (by omega)
    conv => whnf
    refine branch_of (fun h => ?_) (fun h => ?_)
    · have h := of_decide_eq_true h
      have hk' : i + k < s.length := by omega
      conv => whnf
      refine ⟨s[i + k], idx hk' rfl, ?_⟩
      conv => whnf
      refine ⟨by kernel_rfl, ?_⟩
      have hpos := posS_snoc s hk'
      have hw1 : IntKind.i64.wrap ((posS (s.take (i + k))).2 + 1) = (posS (s.take (i + k))).2 + 1 := wr (by omega) (by omega)
      have hw2 : IntKind.i64.wrap ((posS (s.take (i + k))).1 + 1) = (posS (s.take (i + k))).1 + 1 := wr (by omega) (by omega)
      have hw3 : IntKind.i64.wrap (((i + k : Nat) : Int) + 1) = (i + (k + 1) : Nat) := by rw [wr (by omega) (by omega)]; omega
      have hw4 : IntKind.i64.wrap ((k : Int) + 1) = (k + 1 : Nat) := by rw [wr (by omega) (by omega)]; rfl
      conv => whnf
      refine branch_of (fun h => ?_) (fun h => ?_)
      · have h := of_decide_eq_true h
        rw [if_pos (by omega)] at hpos
        conv => whnf
        refine ⟨n - (k + 1), by omega, k + 1, rfl, by omega, ?_⟩
        rw [hw2, hw3, hw4, rd, ← Nat.add_assoc, hpos]
      · have h := of_decide_eq_false h
        rw [if_neg (by omega)] at hpos
        conv => whnf
        refine ⟨n - (k + 1), by omega, k + 1, rfl, by omega, ?_⟩
        rw [hw1, hw3, hw4, rd, ← Nat.add_assoc, hpos]
    · have h := of_decide_eq_false h
      have : k = n := by omega
      subst this
      conv => whnf
      refine ⟨[], rfl, ?_⟩
      conv => whnf
      exact ⟨⟨⟩, rfl, trivial⟩
theorem indexByte_len (l m : Bs) (c : UInt8) (h : c ∉ l) : Lib.indexByte (l ++ c :: m) c = l.length := by
  induction l with
  | nil => simp [Lib.indexByte]
  | cons b l ih =>
    simp only [List.mem_cons, not_or] at h
    have e := ih h.2
    simp only [List.cons_append, Lib.indexByte, e, List.length_cons]
    have hb : ¬ b = c := fun e => h.1 e.symm
    simp [hb]
/-- a comment, up to its line's end -/
def lineN (s : Bs) : Nat := (s.takeWhile fun c => decide (c.toNat ≠ 10)).length
theorem lineN_le (s : Bs) : lineN s ≤ s.length := (List.takeWhile_prefix _).length_le
theorem indexByte_line (s : Bs) : Lib.indexByte (s ++ [10]) 10 = lineN s := by
  have hx : ∀ x : UInt8, decide (x.toNat ≠ 10) = true → x ≠ 10 := fun x hx e => by subst e; simp at hx
  unfold lineN
  have hn : (10 : UInt8) ∉ s.takeWhile fun c => decide (c.toNat ≠ 10) := fun h => hx 10 (List.all_eq_true.1 (List.all_takeWhile (p := fun c : UInt8 => decide (c.toNat ≠ 10)) (l := s)) 10 h) rfl
  have := List.takeWhile_append_dropWhile (p := fun c : UInt8 => decide (c.toNat ≠ 10)) (l := s)
  cases hd : s.dropWhile fun c => decide (c.toNat ≠ 10) with
  | nil =>
    rw [hd, List.append_nil] at this
    rw [this] at hn ⊢
    exact indexByte_len s [] 10 hn
  | cons c r =>
    rw [hd] at this
    have hc : c = 10 := by
      have := List.head?_dropWhile_not (p := fun c : UInt8 => decide (c.toNat ≠ 10)) s
      rw [hd] at this; simp at this
      exact UInt8.toNat_inj.1 this
    subst hc
    conv => lhs; rw [← this, List.append_assoc]
    exact indexByte_len _ _ 10 hn
theorem blanksN_line (s : Bs) : blanksN true s = lineN s + blanksN false (s.drop (lineN s)) := by
  induction s with
  | nil => rfl
  | cons c r ih =>
    unfold lineN
    rw [List.takeWhile_cons]
    by_cases h : c.toNat = 10
    · simp [h, blanksN, blankB]
    · simp only [blanksN, h, decide_true, ne_eq, not_false_eq_true, if_true, if_false, List.length_cons, List.drop_succ_cons]
      rw [ih]; unfold lineN; simp only [ne_eq]; omega
theorem blanks_good (s : Bs) (i : Nat) (hs : s.length ≤ 1000000) (hi : i ≤ s.length) : Good Tryd.prog 10 [.ptr 0 0 0] [rd s i] [] [rd s (i + blanksN false (s.drop i))] := by
  refine good_of hP Tryd.func10 (by kernel_rfl) (lv := [0, 2, 12, 13, 35]) (js := []) ⟨rfl, rfl, rfl, rfl, rfl, rfl, _, rfl, ?_⟩
  conv => whnf
  refine loop_of hP [0, 2, 12, 13, 35] [] [0] [] [] (fun m st => ∃ k : Nat, m = s.length - k ∧ k ≤ s.length ∧ i + blanksN false (s.drop i) = k + blanksN false (s.drop k) ∧ st = ⟨[(0, .ptr 0 0 0)], [(0, rd s k)]⟩) (s.length - i) ?_ ?_
  · conv => whnf
    exact ⟨i, rfl, hi, rfl, rfl⟩
  · rintro m st ⟨k, rfl, hk, he, rfl⟩
    conv => whnf
    refine ⟨by kernel_rfl, ?_⟩
    conv => whnf
    refine branch_of (fun h => ?_) (fun h => ?_)
    · have h := of_decide_eq_true h
      have hk' : k < s.length := by omega
      rw [drop_cons hk'] at he
      conv => whnf
      refine ⟨s[k], idx hk' rfl, ?_⟩
      conv => whnf
      refine ⟨by kernel_rfl, ?_⟩
      conv => whnf
      refine branch_of (fun h1 => ?_) (fun h1 => ?_)
      · have h1 := of_decide_eq_true h1
        conv => whnf
        refine ⟨⟨⟩, by dsimp only; omega, ?_⟩
        conv => whnf
        refine ⟨⟨⟩, by dsimp only; simp only [List.length_drop, List.length_cons, List.length_nil, Int.toNat_natCast]; omega, ?_⟩
        conv => whnf
        refine call0 (indexByte_good (s.drop k ++ [10]) 10) ?_
        rw [indexByte_line]
        have hl := lineN_le (s.drop k)
        rw [List.length_drop] at hl
        have hl1 : 1 ≤ lineN (s.drop k) := by
          rw [drop_cons hk']; unfold lineN; rw [List.takeWhile_cons, if_pos (by simp; omega)]; simp
        conv => whnf
        refine ⟨by kernel_rfl, ?_⟩
        conv => whnf
        refine callN [(0, 0)] (pass_good s k (lineN (s.drop k)) hs (by omega)) ?_
        conv => whnf
        refine ⟨⟨⟩, rfl, ?_⟩
        conv => whnf
        refine ⟨s.length - (k + lineN (s.drop k)), by omega, k + lineN (s.drop k), rfl, by omega, ?_, rfl⟩
        have e2 := blanksN_line (s.drop k)
        have e3 : blanksN true (s.drop k) = 1 + blanksN true (s.drop (k + 1)) := by rw [drop_cons hk', blanksN, if_neg (by omega)]
        rw [List.drop_drop, e3] at e2
        rw [he, blanksN, if_pos (by omega)]
        omega
      · have h1 := of_decide_eq_false h1
        conv => whnf
        refine ⟨s[k], idx hk' rfl, ?_⟩
        conv => whnf
        refine call0 (blank_good _) ?_
        cases hb : blankB s[k] with
        | true =>
          conv => whnf
          refine ⟨by kernel_rfl, ?_⟩
          conv => whnf
          refine callN [(0, 0)] (pass_good s k 1 hs (by omega)) ?_
          conv => whnf
          refine ⟨⟨⟩, rfl, ?_⟩
          conv => whnf
          refine ⟨s.length - (k + 1), by omega, k + 1, rfl, by omega, ?_, rfl⟩
          rw [he, blanksN, if_neg (by omega), if_pos hb]; omega
        | false =>
          conv => whnf
          refine ⟨by kernel_rfl, ?_⟩
          conv => whnf
          refine ⟨[], rfl, ?_⟩
          conv => whnf
          rw [blanksN, if_neg (by omega), if_neg (by simp [hb])] at he
          rw [he]
          exact ⟨⟨⟩, rfl, trivial⟩
    · have h := of_decide_eq_false h
      conv => whnf
      refine ⟨[], rfl, ?_⟩
      conv => whnf
      have : s.drop k = [] := List.drop_eq_nil_iff.2 (by omega)
      rw [this] at he
      have hk3 : k = s.length := by omega
      rw [he]
      exact ⟨⟨⟩, rfl, trivial⟩
end Go.PV
