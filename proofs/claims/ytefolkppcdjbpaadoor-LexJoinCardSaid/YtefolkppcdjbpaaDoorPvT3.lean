/- Part of the proof of LexJoin. -/
import Derived.Test.YtefolkppcdjbpaaDoorPvT2
import Derived.Lib.Join
namespace Go.PV
open Go
/-! signs, between blanks -/
def weave : List (Bs × Tok) → Bs
  | [] => []
  | (b, t) :: r => b ++ (t.t ++ weave r)
theorem weave_app : ∀ a b : List (Bs × Tok), weave (a ++ b) = weave a ++ weave b
  | [], b => rfl
  | (x, t) :: r, b => by simp [weave, weave_app r b]
def Sp (b : Bs) : Prop := ∀ y, blanksN false (b ++ y) = b.length + blanksN false y
def Own1 (t : Tok) : Prop := 1 ≤ t.t.length ∧ ∀ r, Stop r → nextS (t.t ++ r) = (t.k, t.t.length, true)
def Woven : List (Bs × Tok) → Prop
  | [] => True
  | (b, t) :: r => Sp b ∧ Own1 t ∧ Stop (weave r) ∧ Woven r
abbrev kt (t : Tok) : Int × Bs := (t.k, t.t)
theorem own_go (s : Bs) : ∀ (f i : Nat), ∀ t ∈ (toksGo s f i).1, Own1 t
  | 0, i, t, h => by simp [toksGo] at h
  | f + 1, i, t, h => by
    rw [toksGo] at h
    split at h
    · rename_i hi
      have hn := nextS_le (s.drop i)
      rw [List.length_drop] at hn
      dsimp only at h
      split at h
      · rename_i hx
        have hp := nextS_pos hx
        rcases List.mem_cons.1 h with rfl | h
        · have hl : ((s.drop i).take (nextS (s.drop i)).2.1).length = (nextS (s.drop i)).2.1 := by simp; omega
          refine ⟨by rw [hl]; exact hp, fun r hr => ?_⟩
          dsimp only
          rw [nextS_cut hr hx, hl]
          generalize nextS (s.drop i) = x at hx
          obtain ⟨a, b, c⟩ := x
          simp only at hx; subst hx; rfl
        · exact own_go s f _ t h
      · simp at h
    · simp at h
theorem own_R (s : Bs) : ∀ t ∈ toksR s, Own1 t := by
  unfold toksR; split
  · intro t h; simp at h
  · exact own_go s _ _
theorem head_own {t : Tok} (h : Own1 t) {r : Bs} (hr : Stop r) : blanksN false (t.t ++ r) = 0 := by
  obtain ⟨h1, h2⟩ := h
  have := h2 r hr
  cases ht : t.t with
  | nil => rw [ht] at h1; simp at h1
  | cons c u =>
    rw [ht] at this
    have hh := nextS_head (c := c) (r := u ++ r) (by rw [List.cons_append] at this; rw [this])
    rw [List.cons_append, blanksN, if_neg hh.1, if_neg (by rw [hh.2]; simp)]
theorem woven_go : ∀ (l : List (Bs × Tok)) (pre w : Bs) (f : Nat), Woven l → w = pre ++ weave l → l.length ≤ f →
    (toksGo w f (pre.length + blanksN false (weave l))).1.map kt = l.map (fun x => kt x.2) ∧ (toksGo w f (pre.length + blanksN false (weave l))).2 = none
  | [], pre, w, f, _, hw, _ => by
    have : toksGo w f (pre.length + blanksN false (weave [])) = ([], none) := by
      cases f with
      | zero => rfl
      | succ f => rw [toksGo, if_neg]; rw [hw]; simp [weave, blanksN]
    rw [this]; simp
  | (b, t) :: r, pre, w, f, h, hw, hf => by
    obtain ⟨h1, h2, h3, h4⟩ := h
    obtain ⟨f, rfl⟩ : ∃ f', f = f' + 1 := ⟨f - 1, by simp at hf; omega⟩
    have hb : blanksN false (weave ((b, t) :: r)) = b.length := by rw [weave, h1, head_own h2 h3]; omega
    rw [hb]
    have hd : w.drop (pre.length + b.length) = t.t ++ weave r := by
      rw [hw, weave, ← List.append_assoc, ← List.length_append, List.drop_left]
    have hlt : pre.length + b.length < w.length := by
      have := congrArg List.length hd
      rw [List.length_drop, List.length_append] at this
      have := h2.1; omega
    have hn := h2.2 _ h3
    have hd2 : w.drop (pre.length + b.length + t.t.length) = weave r := by
      rw [← List.drop_drop, hd, List.drop_left]
    have ih := woven_go r (pre ++ (b ++ t.t)) w f h4 (by rw [hw, weave]; simp) (by simp at hf; omega)
    have hl : (pre ++ (b ++ t.t)).length = pre.length + b.length + t.t.length := by simp; omega
    rw [hl] at ih
    rw [toksGo, if_pos hlt, hd, hn]
    dsimp only
    rw [if_pos rfl, hd2]
    dsimp only
    rw [List.map_cons, List.map_cons, ih.1, List.take_left]
    exact ⟨rfl, ih.2⟩
theorem woven_len : ∀ {l : List (Bs × Tok)}, Woven l → l.length ≤ (weave l).length
  | [], _ => Nat.zero_le _
  | (b, t) :: r, h => by
    obtain ⟨_, h2, _, h4⟩ := h
    have := woven_len h4
    have := h2.1
    simp only [weave, List.length_cons, List.length_append]; omega
theorem woven_R {l : List (Bs × Tok)} (h : Woven l) : (toksR (weave l)).map kt = l.map (fun x => kt x.2) ∧ errR (weave l) = 0 := by
  have := woven_go l [] (weave l) (weave l).length h rfl (woven_len h)
  simp only [List.length_nil, Nat.zero_add] at this
  have e : toksS (weave l) = toksGo (weave l) (weave l).length (blanksN false (weave l)) := rfl
  rw [← e] at this
  unfold toksR errR
  rw [this.2]
  exact ⟨this.1, rfl⟩
/-- the blanks that are tried -/
def seps5 : List Bs := [[32], [10], [9, 13], [32, 37, 32, 120, 32, 40, 32, 34, 10], [32, 32]]
theorem sp_seps {b : Bs} (h : b ∈ seps5) : Sp b := by
  intro y
  simp only [seps5, List.mem_cons, List.mem_nil_iff, or_false] at h
  rcases h with rfl | rfl | rfl | rfl | rfl
  · rfl
  · rfl
  · simp [blanksN, blankB]; omega
  · simp [blanksN, blankB]; omega
  · simp [blanksN, blankB]; omega
theorem stop_seps {b : Bs} (h : b ∈ seps5) (y : Bs) : Stop (b ++ y) := by
  simp only [seps5, List.mem_cons, List.mem_nil_iff, or_false] at h
  rcases h with rfl | rfl | rfl | rfl | rfl <;> exact .inr ⟨_, _, rfl, by decide⟩
theorem len_seps {b : Bs} (h : b ∈ seps5) : b.length ≤ 9 := by
  simp only [seps5, List.mem_cons, List.mem_nil_iff, or_false] at h
  rcases h with rfl | rfl | rfl | rfl | rfl <;> decide
theorem stop_weave {l : List (Bs × Tok)} (h : ∀ x ∈ l, x.1 ∈ seps5) : Stop (weave l) := by
  cases l with
  | nil => exact .inl rfl
  | cons x r => exact stop_seps (h x (by simp)) _
theorem woven_seps : ∀ {l : List (Bs × Tok)}, (∀ x ∈ l, x.1 ∈ seps5) → (∀ x ∈ l, Own1 x.2) → Woven l
  | [], _, _ => trivial
  | (b, t) :: r, h, k => ⟨sp_seps (h _ List.mem_cons_self), k _ List.mem_cons_self, stop_weave fun x hx => h x (by simp [hx]), woven_seps (fun x hx => h x (by simp [hx])) (fun x hx => k x (by simp [hx]))⟩
def joinS (l : List Tok) : Bs := Lib.join (l.map Tok.t) [32]
def joinW : List Tok → List (Bs × Tok)
  | [] => []
  | t :: r => ([], t) :: r.map fun u => ([32], u)
theorem join_weave : ∀ l : List Tok, joinS l = weave (joinW l) := by
  have go : ∀ (r : List Tok), Lib.joinTail [32] (r.map Tok.t) = weave (r.map fun u => ([32], u)) := by
    intro r
    induction r with
    | nil => rfl
    | cons u r ih =>
      simp only [Lib.joinTail, List.map_cons, List.flatten_cons, weave, List.append_assoc] at ih ⊢
      rw [ih]
  intro l
  cases l with
  | nil => rfl
  | cons t r => simp only [joinS, List.map_cons, joinW, weave, List.nil_append]; rw [Lib.join_cons, go]
theorem woven_join {l : List Tok} (h : ∀ t ∈ l, Own1 t) : Woven (joinW l) := by
  cases l with
  | nil => trivial
  | cons t r =>
    have h1 : ∀ x ∈ r.map (fun u => (([32] : Bs), u)), x.1 ∈ seps5 := fun x hx => by
      obtain ⟨u, _, rfl⟩ := List.mem_map.1 hx; simp [seps5]
    refine ⟨fun y => by simp, h t (by simp), stop_weave h1, woven_seps h1 fun x hx => ?_⟩
    obtain ⟨u, hu, rfl⟩ := List.mem_map.1 hx; exact h u (by simp [hu])
theorem joinW_map (l : List Tok) : (joinW l).map (fun x => kt x.2) = l.map kt := by
  cases l with
  | nil => rfl
  | cons t r => simp [joinW]
theorem join_R {l : List Tok} (h : ∀ t ∈ l, Own1 t) : (toksR (joinS l)).map kt = l.map kt ∧ errR (joinS l) = 0 := by
  rw [join_weave, ← joinW_map l]; exact woven_R (woven_join h)
def lens (l : List Tok) : Nat := (l.map fun t => t.t.length).sum
theorem chain_lens {s : Bs} : ∀ {l : List Tok} {lo : Nat}, Chain s lo l → lo ≤ s.length → lo + lens l ≤ s.length
  | [], lo, _, h => by simpa [lens] using h
  | t :: ts, lo, h, _ => by
    obtain ⟨i, h1, h2, h3, _, _, h6⟩ := h
    have := chain_lens h6 h2
    simp only [lens, List.map_cons, List.sum_cons] at this ⊢; omega
theorem weave_len : ∀ {l : List (Bs × Tok)}, (∀ x ∈ l, x.1.length ≤ 9) → (weave l).length ≤ 9 * l.length + lens (l.map (·.2))
  | [], _ => by simp [weave, lens]
  | (b, t) :: r, h => by
    have := weave_len (l := r) fun x hx => h x (by simp [hx])
    have h1 : b.length ≤ 9 := h _ List.mem_cons_self
    simp only [weave, lens, List.length_append, List.length_cons, List.map_cons, List.sum_cons] at this ⊢; omega
theorem joinS_len (l : List Tok) : (joinS l).length ≤ 9 * l.length + lens l := by
  rw [join_weave]
  have h1 : ∀ x ∈ joinW l, x.1.length ≤ 9 := by
    cases l with
    | nil => intro x hx; simp [joinW] at hx
    | cons t r =>
      intro x hx
      simp only [joinW, List.mem_cons, List.mem_map] at hx
      rcases hx with rfl | ⟨u, _, rfl⟩ <;> simp
  have h2 := weave_len h1
  have e1 : (joinW l).length = l.length := by cases l <;> simp [joinW]
  have e2 : (joinW l).map (·.2) = l := by
    cases l with
    | nil => rfl
    | cons t r =>
      simp only [joinW, List.map_cons, List.map_map]
      exact congrArg _ ((List.map_congr_left fun u _ => rfl).trans (List.map_id' r))
  rwa [e1, e2] at h2
end Go.PV
