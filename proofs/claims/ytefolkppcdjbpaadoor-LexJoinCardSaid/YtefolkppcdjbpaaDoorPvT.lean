/- Part of the proof of LexJoin. -/
import Derived.Test.YtefolkppcdjbpaaDoorPvL
namespace Go.PV
open Go
/-! laws of signs -/
def posLt (p q : Int × Int) : Prop := p.1 < q.1 ∨ (p.1 = q.1 ∧ p.2 < q.2)
theorem posLt.ne {p q : Int × Int} (h : posLt p q) : p ≠ q := fun e => by subst e; rcases h with h | h <;> omega
theorem posS_lt (s : Bs) {i : Nat} : ∀ j, i < j → j ≤ s.length → posLt (posS (s.take i)) (posS (s.take j))
  | 0, h, _ => by omega
  | j + 1, h, hj => by
    have e := posS_snoc s (k := j) (by omega)
    have step : posLt (posS (s.take j)) (posS (s.take (j + 1))) := by
      rw [e]; split
      · exact .inl (by dsimp only; omega)
      · exact .inr ⟨rfl, by dsimp only; omega⟩
    by_cases h1 : i = j
    · subst h1; exact step
    · have ih := posS_lt s (i := i) j (by omega) (by omega)
      unfold posLt at *
      omega
def placeS (s : Bs) (p : Int × Int) : Int := match (List.range s.length).find? fun i => decide (posS (s.take i) = p) with
  | some i => i
  | none => -1
theorem placeS_at {s : Bs} {p : Int × Int} {k : Nat} (hk : k < s.length) (h : posS (s.take k) = p) (hn : ∀ j, j < k → posS (s.take j) ≠ p) : placeS s p = k := by
  have : (List.range s.length).find? (fun i => decide (posS (s.take i) = p)) = some k := by
    rw [List.find?_range_eq_some]
    simp [hk, h]; exact hn
  unfold placeS; rw [this]
theorem placeS_no {s : Bs} {p : Int × Int} (hn : ∀ j, j < s.length → posS (s.take j) ≠ p) : placeS s p = -1 := by
  have : (List.range s.length).find? (fun i => decide (posS (s.take i) = p)) = none := by
    rw [List.find?_range_eq_none]
    simpa using hn
  unfold placeS; rw [this]
theorem placeS_of {s : Bs} {i : Nat} (h : i < s.length) : placeS s (posS (s.take i)) = i :=
  placeS_at h rfl fun j hj => (posS_lt s i hj (by omega)).ne
/-- each sign stands at its place, one behind the other -/
def Chain (s : Bs) : Nat → List Tok → Prop
  | _, [] => True
  | lo, t :: ts => ∃ i, lo ≤ i ∧ i + t.t.length ≤ s.length ∧ 1 ≤ t.t.length ∧ t.p = posS (s.take i) ∧ t.t = (s.drop i).take t.t.length ∧ Chain s (i + t.t.length) ts
theorem chain_len {s : Bs} : ∀ {l : List Tok} {lo : Nat}, Chain s lo l → lo + l.length ≤ s.length ∨ l = []
  | [], lo, _ => .inr rfl
  | t :: ts, lo, h => by
    obtain ⟨i, h1, h2, h3, _, _, h6⟩ := h
    left
    rcases chain_len h6 with h | h
    · simp only [List.length_cons]; omega
    · subst h; simp only [List.length_cons, List.length_nil]; omega
theorem takeWhile_len {p : UInt8 → Bool} (s : Bs) : (s.takeWhile p).length ≤ s.length := (List.takeWhile_prefix _).length_le
theorem textGo_le : ∀ (s : Bs) (i : Nat), textGo i s ≤ i + s.length
  | [], i => by simp [textGo]
  | [c], i => by simp only [textGo]; split <;> simp
  | c :: d :: r, i => by
    have h1 := textGo_le (d :: r) (i + 1)
    have h2 := textGo_le r (i + 2)
    rw [textGo]
    simp only [List.length_cons] at h1 ⊢
    split
    · omega
    · split
      · omega
      · split <;> omega
theorem textS_le (s : Bs) (h : s ≠ []) : textS s ≤ s.length := by
  have := textGo_le (s.drop 1) 1
  have hl : 0 < s.length := List.length_pos_iff.2 h
  rw [List.length_drop] at this
  unfold textS; omega
theorem hasP_len {s p : Bs} (h : hasP s p = true) : p.length ≤ s.length := by simp [hasP] at h; exact h.1
theorem signS_le (s : Bs) : signS s ≤ s.length := by
  unfold signS
  split
  · rename_i h
    have : ∀ a b : UInt8, hasP s [a, b] = true → 2 ≤ s.length := fun a b h => by simpa using hasP_len h
    rcases h with h | h | h | h <;> exact this _ _ h
  · cases s with
    | nil => simp
    | cons c r => dsimp only; split <;> simp
theorem nextS_le (s : Bs) : (nextS s).2.1 ≤ s.length := by
  cases s with
  | nil => simp [nextS]
  | cons c r =>
    have h1 := takeWhile_len (p := letterB) (c :: r)
    have h2 := takeWhile_len (p := digitB) r
    have h3 := textS_le (c :: r) (by simp)
    have h4 := signS_le (c :: r)
    simp only [nextS]
    split
    · exact h1
    · split
      · simp only [List.length_cons]; omega
      · split
        · exact h3
        · exact h4
theorem nextS_pos {s : Bs} (h : (nextS s).2.2 = true) : 1 ≤ (nextS s).2.1 := by
  cases s with
  | nil => simp [nextS] at h
  | cons c r =>
    simp only [nextS] at h ⊢
    split
    · rename_i h1
      have : letterB c = true := by simp [letterB]; rcases h1 with h1 | h1 <;> simp [h1]
      rw [List.takeWhile_cons, if_pos this]; simp
    · rename_i h1
      rw [if_neg h1] at h
      split
      · simp
      · rename_i h2
        rw [if_neg h2] at h
        split
        · rename_i h3
          rw [if_pos h3] at h
          simp at h; exact h.1
        · rename_i h3
          rw [if_neg h3] at h
          exact of_decide_eq_true h
theorem blanksN_le : ∀ (b : Bool) (s : Bs), blanksN b s ≤ s.length
  | _, [] => by simp [blanksN]
  | true, c :: r => by
    have h1 := blanksN_le true r
    have h2 := blanksN_le false r
    simp only [blanksN, List.length_cons]; split <;> omega
  | false, c :: r => by
    have h1 := blanksN_le true r
    have h2 := blanksN_le false r
    simp only [blanksN, List.length_cons]; split
    · omega
    · split <;> omega
theorem chain_go (s : Bs) : ∀ (f lo i : Nat), lo ≤ i → Chain s lo (toksGo s f i).1 ∧ ∀ p, (toksGo s f i).2 = some p → ∃ k, k < s.length ∧ p = posS (s.take k)
  | 0, lo, i, h => ⟨trivial, fun p e => by simp [toksGo] at e⟩
  | f + 1, lo, i, h => by
    rw [toksGo]
    split
    · rename_i hi
      have hn := nextS_le (s.drop i)
      rw [List.length_drop] at hn
      dsimp only
      split
      · rename_i hx
        have hp := nextS_pos hx
        obtain ⟨h1, h2⟩ := chain_go s f (i + (nextS (s.drop i)).2.1) (i + (nextS (s.drop i)).2.1 + blanksN false (s.drop (i + (nextS (s.drop i)).2.1))) (by omega)
        have hl : ((s.drop i).take (nextS (s.drop i)).2.1).length = (nextS (s.drop i)).2.1 := by simp; omega
        exact ⟨⟨i, h, by rw [hl]; omega, by rw [hl]; exact hp, rfl, by rw [hl], by rw [hl]; exact h1⟩, h2⟩
      · refine ⟨trivial, fun p e => ?_⟩
        simp only [Option.some.injEq] at e
        exact ⟨i, hi, e.symm⟩
    · exact ⟨trivial, fun p e => by simp at e⟩
theorem chain_toks (s : Bs) : Chain s 0 (toksS s).1 := (chain_go s _ 0 _ (Nat.zero_le _)).1
theorem err_toks {s : Bs} {p : Int × Int} (h : (toksS s).2 = some p) : ∃ k, k < s.length ∧ p = posS (s.take k) := (chain_go s _ 0 _ (Nat.zero_le _)).2 p h
def toksR (s : Bs) : List Tok := if (toksS s).2.isSome then [] else (toksS s).1
def errR (s : Bs) : Int := if (toksS s).2.isSome then 6 else 0
def posR (s : Bs) : Int × Int := (toksS s).2.getD (0, 0)
theorem chain_R (s : Bs) : Chain s 0 (toksR s) := by unfold toksR; split; exact trivial; exact chain_toks s
theorem errR_cases (s : Bs) : errR s = 0 ∨ (errR s = 6 ∧ toksR s = [] ∧ ∃ k, k < s.length ∧ posR s = posS (s.take k)) := by
  unfold errR toksR posR
  cases h : (toksS s).2 with
  | none => exact .inl rfl
  | some p =>
    obtain ⟨k, h1, h2⟩ := err_toks h
    exact .inr ⟨rfl, rfl, k, h1, h2⟩
end Go.PV
