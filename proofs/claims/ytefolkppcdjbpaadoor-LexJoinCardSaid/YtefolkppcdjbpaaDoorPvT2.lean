/- Part of the proof of LexJoin. -/
import Derived.Test.YtefolkppcdjbpaaDoorPvT
namespace Go.PV
open Go
/-! signs, joined by blanks, are the same signs -/
/-- blank at the beginning, or at an end -/
def Stop (r : Bs) : Prop := r = [] ∨ ∃ c r', r = c :: r' ∧ (c.toNat = 32 ∨ c.toNat = 10 ∨ c.toNat = 9)
theorem Stop.not {r : Bs} (h : Stop r) (p : UInt8 → Bool) (hp : ∀ c : UInt8, c.toNat = 32 ∨ c.toNat = 10 ∨ c.toNat = 9 → p c = false) : r.takeWhile p = [] := by
  rcases h with rfl | ⟨c, r', rfl, hc⟩
  · rfl
  · rw [List.takeWhile_cons, if_neg (by rw [hp c hc]; simp)]
theorem letter_blank (c : UInt8) (h : c.toNat = 32 ∨ c.toNat = 10 ∨ c.toNat = 9) : letterB c = false := by
  simp [letterB, smallB, largeB, digitB, inB]; omega
theorem digit_blank (c : UInt8) (h : c.toNat = 32 ∨ c.toNat = 10 ∨ c.toNat = 9) : digitB c = false := by
  simp [digitB, inB]; omega
/-- what is run over, and no more -/
theorem run_cut {p : UInt8 → Bool} (hp : ∀ c : UInt8, c.toNat = 32 ∨ c.toNat = 10 ∨ c.toNat = 9 → p c = false) (s r : Bs) (h : Stop r) : ((s.takeWhile p) ++ r).takeWhile p = s.takeWhile p := by
  rw [List.takeWhile_append_of_pos (fun a ha => List.all_eq_true.1 List.all_takeWhile a ha), h.not p hp, List.append_nil]
theorem take_run {p : UInt8 → Bool} (s : Bs) : s.take (s.takeWhile p).length = s.takeWhile p := (List.prefix_iff_eq_take.1 (List.takeWhile_prefix p)).symm
theorem textGo_gt : ∀ (s : Bs) (i : Nat), textGo i s = 0 ∨ i < textGo i s
  | [], i => by simp [textGo]
  | [c], i => by simp only [textGo]; split <;> simp
  | c :: d :: r, i => by
    have h1 := textGo_gt (d :: r) (i + 1)
    have h2 := textGo_gt r (i + 2)
    rw [textGo]
    split
    · omega
    · split
      · omega
      · split <;> omega
theorem textGo_cut : ∀ (s : Bs) (i n : Nat) (r : Bs), textGo i s = i + n → 0 < n → textGo i (s.take n ++ r) = i + n
  | [], i, n, r, h, hn => by simp [textGo] at h; omega
  | [c], i, n, r, h, hn => by
    simp only [textGo] at h
    split at h
    · rename_i hc
      have : n = 1 := by omega
      subst this
      show textGo i (c :: r) = _
      cases r <;> simp [textGo, hc]
    · omega
  | c :: d :: s, i, n, r, h, hn => by
    rw [textGo] at h
    split at h
    · rename_i hc
      have : n = 1 := by omega
      subst this
      show textGo i (c :: r) = _
      cases r <;> simp [textGo, hc]
    · rename_i hc
      split at h
      · rename_i he
        have hg := textGo_gt s (i + 2)
        obtain ⟨m, rfl⟩ : ∃ m, n = m + 2 := ⟨n - 2, by omega⟩
        have ih := textGo_cut s (i + 2) m r (by omega) (by omega)
        show textGo i (c :: d :: (s.take m ++ r)) = _
        rw [textGo, if_neg hc, if_pos he, ih]; omega
      · rename_i he
        split at h
        · omega
        · rename_i hb
          have hg := textGo_gt (d :: s) (i + 1)
          obtain ⟨m, rfl⟩ : ∃ m, n = m + 2 := ⟨n - 2, by omega⟩
          have ih := textGo_cut (d :: s) (i + 1) (m + 1) r (by omega) (by omega)
          show textGo i (c :: d :: (s.take m ++ r)) = _
          rw [textGo, if_neg hc, if_neg he, if_neg hb]
          show textGo (i + 1) ((d :: s).take (m + 1) ++ r) = _
          rw [ih]; omega
theorem hasP_two (a b : UInt8) (s : Bs) : hasP s [a, b] = true ↔ ∃ r, s = a :: b :: r := by
  constructor
  · intro h
    simp [hasP] at h
    match s, h with
    | [], h => simp at h
    | [x], h => simp at h
    | x :: y :: r, h => simp at h; exact ⟨r, by rw [h.1, h.2]⟩
  · rintro ⟨r, rfl⟩; simp [hasP]
/-- a sign's head is no blank, nor a comment's -/
theorem nextS_head {c : UInt8} {r : Bs} (h : (nextS (c :: r)).2.2 = true) : c.toNat ≠ 37 ∧ blankB c = false := by
  have hb : ∀ a b : Nat, inB a b c = true → 48 ≤ a → c.toNat ≠ 37 ∧ blankB c = false := fun a b h ha => by
    rw [inB_iff] at h; exact ⟨by omega, by simp [blankB]; omega⟩
  simp only [nextS] at h
  split at h
  · rename_i h1
    rcases h1 with h1 | h1
    · exact hb _ _ h1 (by omega)
    · exact hb _ _ h1 (by omega)
  · split at h
    · rename_i h1
      rcases h1 with h1 | ⟨h1, _⟩
      · exact hb _ _ h1 (by omega)
      · exact ⟨by omega, by simp [blankB]; omega⟩
    · split at h
      · rename_i h1
        exact ⟨by omega, by simp [blankB]; omega⟩
      · have hs := of_decide_eq_true h
        unfold signS at hs
        dsimp only at hs
        split at hs
        · rename_i h2
          simp only [hasP_two] at h2
          rcases h2 with ⟨_, h2⟩ | ⟨_, h2⟩ | ⟨_, h2⟩ | ⟨_, h2⟩ <;> (injection h2 with h3 _; subst h3; decide)
        · split at hs
          · rename_i h3
            simp only [signs1, List.mem_cons, List.mem_nil_iff, or_false] at h3
            rcases h3 with h3 | h3 | h3 | h3 | h3 | h3 | h3 | h3 | h3 | h3 | h3 | h3 | h3 <;> (subst h3; decide)
          · omega
/-- the sign ahead hangs on itself, and on a blank behind it -/
theorem nextS_cut {s r : Bs} (hr : Stop r) (h : (nextS s).2.2 = true) : nextS (s.take (nextS s).2.1 ++ r) = nextS s := by
  cases s with
  | nil => simp [nextS] at h
  | cons c s =>
    by_cases h1 : smallB c ∨ largeB c
    · have e : nextS (c :: s) = (if largeB c then 2 else 1, ((c :: s).takeWhile letterB).length, decide (((c :: s).takeWhile letterB).length ≤ 24)) := by rw [nextS, if_pos h1]
      have hl : letterB c = true := by simp [letterB]; rcases h1 with h1 | h1 <;> simp [h1]
      rw [e]
      dsimp only
      rw [take_run]
      have ht : (c :: s).takeWhile letterB = c :: s.takeWhile letterB := by rw [List.takeWhile_cons, if_pos hl]
      have hc := run_cut letter_blank (c :: s) r hr
      rw [ht] at hc ⊢
      rw [List.cons_append] at hc ⊢
      rw [nextS, if_pos h1, hc]
    · by_cases h2 : digitB c ∨ (c.toNat = 45 ∧ headB digitB s)
      · have e : nextS (c :: s) = (3, 1 + (s.takeWhile digitB).length, (numberS ((c :: s).take (1 + (s.takeWhile digitB).length))).isSome) := by rw [nextS, if_neg h1, if_pos h2]
        rw [e] at h ⊢
        dsimp only at h ⊢
        have ht : (c :: s).take (1 + (s.takeWhile digitB).length) = c :: s.takeWhile digitB := by rw [Nat.add_comm, List.take_succ_cons, take_run]
        have hc := run_cut digit_blank s r hr
        rw [ht]
        rw [List.cons_append]
        have h2' : digitB c ∨ (c.toNat = 45 ∧ headB digitB (s.takeWhile digitB ++ r)) := by
          rcases h2 with h2 | ⟨h2, h3⟩
          · exact .inl h2
          · refine .inr ⟨h2, ?_⟩
            cases s with
            | nil => simp [headB] at h3
            | cons d s => simp only [headB] at h3; rw [List.takeWhile_cons, if_pos h3]; exact h3
        rw [nextS, if_neg h1, if_pos h2', hc]
        have ht2 : (c :: (s.takeWhile digitB ++ r)).take (1 + (s.takeWhile digitB).length) = c :: s.takeWhile digitB := by
          rw [Nat.add_comm, List.take_succ_cons, List.take_left]
        rw [ht2]
      · by_cases h3 : c.toNat = 34
        · have e : nextS (c :: s) = (4, textS (c :: s), decide (0 < textS (c :: s)) && (parseS ((c :: s).take (textS (c :: s)))).isSome) := by rw [nextS, if_neg h1, if_neg h2, if_pos h3]
          rw [e] at h ⊢
          dsimp only at h ⊢
          simp only [Bool.and_eq_true, decide_eq_true_eq] at h
          have hg := textGo_gt s 1
          have hx : textS (c :: s) = textGo 1 s := rfl
          obtain ⟨m, hm⟩ : ∃ m, textS (c :: s) = m + 1 := ⟨textS (c :: s) - 1, by omega⟩
          have hcut := textGo_cut s 1 m r (by omega) (by omega)
          rw [hm, List.take_succ_cons, List.cons_append]
          have ht : textS (c :: (s.take m ++ r)) = m + 1 := by show textGo 1 (s.take m ++ r) = _; rw [hcut]; omega
          have hn2 : ¬ (digitB c ∨ (c.toNat = 45 ∧ headB digitB (s.take m ++ r))) := by
            rintro (h | ⟨h, _⟩)
            · exact h2 (.inl h)
            · omega
          rw [nextS, if_neg h1, if_neg hn2, if_pos h3, ht]
          have hml : m ≤ s.length := by
            have := textS_le (c :: s) (by simp); simp only [List.length_cons] at this; omega
          have : (c :: (s.take m ++ r)).take (m + 1) = c :: s.take m := by
            rw [List.take_succ_cons, List.take_append_of_le_length (by simp; omega), List.take_take, Nat.min_self]
          rw [this]
        · have e : nextS (c :: s) = (5, signS (c :: s), decide (0 < signS (c :: s))) := by rw [nextS, if_neg h1, if_neg h2, if_neg h3]
          rw [e] at h ⊢
          dsimp only at h ⊢
          have hstop : headB digitB r = false := by
            rcases hr with rfl | ⟨b, r', rfl, hb⟩
            · rfl
            · exact digit_blank b hb
          have hno : ∀ a b : UInt8, b.toNat ≠ 32 → b.toNat ≠ 10 → b.toNat ≠ 9 → ¬ hasP (c :: r) [a, b] = true := fun a b h5 h6 h7 hh => by
            obtain ⟨q, hq⟩ := (hasP_two a b _).1 hh
            injection hq with _ hq
            rcases hr with rfl | ⟨b', r', rfl, hb⟩
            · cases hq
            · injection hq with hq _; subst hq; omega
          have two : ∀ a b : UInt8, hasP (c :: s) [a, b] = true → digitB b = false → (hasP (c :: s) [33, 61] ∨ hasP (c :: s) [60, 61] ∨ hasP (c :: s) [45, 62] ∨ hasP (c :: s) [61, 62]) → (hasP (a :: b :: r) [33, 61] ∨ hasP (a :: b :: r) [60, 61] ∨ hasP (a :: b :: r) [45, 62] ∨ hasP (a :: b :: r) [61, 62]) →
              nextS ((c :: s).take (signS (c :: s)) ++ r) = (5, signS (c :: s), decide (0 < signS (c :: s))) := fun a b hh hb hany hany2 => by
            have e2 : signS (c :: s) = 2 := by unfold signS; rw [if_pos hany]
            obtain ⟨q, hq⟩ := (hasP_two a b _).1 hh
            injection hq with hq1 hq2
            subst hq1; subst hq2
            rw [e2]
            show nextS (c :: b :: r) = _
            have e3 : signS (c :: b :: r) = 2 := by unfold signS; rw [if_pos hany2]
            rw [nextS, if_neg h1, if_neg (by rintro (h | ⟨_, h⟩); exact h2 (.inl h); simp [headB, hb] at h), if_neg h3, e3]
          by_cases hany : hasP (c :: s) [33, 61] ∨ hasP (c :: s) [60, 61] ∨ hasP (c :: s) [45, 62] ∨ hasP (c :: s) [61, 62]
          · rcases hany with h5 | h5 | h5 | h5
            · exact two _ _ h5 (by decide) (.inl h5) (.inl (by simp [hasP]))
            · exact two _ _ h5 (by decide) (.inr (.inl h5)) (.inr (.inl (by simp [hasP])))
            · exact two _ _ h5 (by decide) (.inr (.inr (.inl h5))) (.inr (.inr (.inl (by simp [hasP]))))
            · exact two _ _ h5 (by decide) (.inr (.inr (.inr h5))) (.inr (.inr (.inr (by simp [hasP]))))
          · have e2 : signS (c :: s) = if c ∈ signs1 then 1 else 0 := by unfold signS; rw [if_neg hany]
            have hmem : c ∈ signs1 := by
              by_cases hm : c ∈ signs1
              · exact hm
              · have := of_decide_eq_true h; rw [e2, if_neg hm] at this; omega
            rw [if_pos hmem] at e2
            rw [e2]
            show nextS (c :: r) = _
            have e3 : signS (c :: r) = 1 := by
              unfold signS
              rw [if_neg]
              · dsimp only; rw [if_pos hmem]
              · rintro (h | h | h | h)
                · exact hno _ _ (by decide) (by decide) (by decide) h
                · exact hno _ _ (by decide) (by decide) (by decide) h
                · exact hno _ _ (by decide) (by decide) (by decide) h
                · exact hno _ _ (by decide) (by decide) (by decide) h
            rw [nextS, if_neg h1, if_neg (by rintro (h | ⟨_, h⟩); exact h2 (.inl h); rw [hstop] at h; cases h), if_neg h3, e3]
end Go.PV
