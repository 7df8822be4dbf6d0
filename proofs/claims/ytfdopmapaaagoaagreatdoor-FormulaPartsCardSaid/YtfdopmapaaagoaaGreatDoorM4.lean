/- Part of the proof. -/
import Derived.Test.YtfdopmapaaagoaaGreatDoorM3
import Derived.Lib.Join
set_option linter.unusedVariables false
set_option linter.unusedSimpArgs false
namespace Go.PV
open Go Go.Proofs
set_option maxRecDepth 100000
theorem open_good (r : Rd) : Good Tryz.prog 149 [.ptr 0 0 0] [r.ob] [.bool r.isOpen] [r.ob] := by
  obtain ⟨l, i, b, o, w⟩ := r
  refine good_of hP Tryz.func149 (by kernel_rfl) (lv := [0, 2]) (js := []) ⟨rfl, rfl, rfl, rfl, rfl, rfl, _, rfl, ?_⟩
  cases b with
  | true =>
    conv => whnf
    refine ⟨[], rfl, ?_⟩
    conv => whnf
    exact ⟨⟨⟩, rfl, trivial⟩
  | false =>
    conv => whnf
    refine ⟨[], rfl, ?_⟩
    conv => whnf
    exact ⟨⟨⟩, rfl, trivial⟩
theorem see_good (r : Rd) (k : Int) (t : Bs) (hl : r.l.length ≤ 1000000) : Good Tryz.prog 210 [.ptr 0 0 0, .int .i64 k, .str t] [r.ob] [.bool (r.see k t)] [r.ob] := by
  obtain ⟨l, i, b, o, w⟩ := r
  dsimp only at hl
  refine good_of hP Tryz.func210 (by kernel_rfl) (lv := [0, 1, 2, 6]) (js := []) ⟨rfl, rfl, rfl, rfl, rfl, rfl, _, rfl, ?_⟩
  unfold Rd.see
  conv => whnf
  refine callN [(0, 0)] (open_good ⟨l, i, b, o, w⟩) ?_ 
  conv => whnf
  refine ⟨⟨⟩, rfl, ?_⟩
  cases Rd.isOpen ⟨l, i, b, o, w⟩ with
  | false =>
    conv => whnf
    refine ⟨by kernel_rfl, ?_⟩
    conv => whnf
    refine ⟨[], rfl, ?_⟩
    conv => whnf
    exact ⟨⟨⟩, rfl, trivial⟩
  | true =>
    conv => whnf
    refine branch_of (fun h => ?_) (fun h => ?_)
    · have h := of_decide_eq_true h
      rw [List.length_map] at h
      try dsimp only at h
      have hi : i < l.length := by omega
      have hc : Rd.cur ⟨l, i, b, o, w⟩ = some (l[i].k, l[i].t) := by simp [Rd.cur, hi]
      rw [hc, show decide (some (l[i].k, l[i].t) = some (k, t)) = (decide (l[i].k = k) && decide (l[i].t = t)) from by rw [Bool.eq_iff_iff]; simp]
      conv => whnf
      refine ⟨Tok.c l[i], idxM hi rfl, ?_⟩
      conv => whnf
      refine branch_of (fun h2 => ?_) (fun h2 => ?_)
      · rw [h2]
        conv => whnf
        refine ⟨Tok.c l[i], idxM hi rfl, ?_⟩
        conv => whnf
        refine ⟨by kernel_rfl, ?_⟩
        conv => whnf
        refine ⟨[], rfl, ?_⟩
        conv => whnf
        exact ⟨⟨⟩, rfl, trivial⟩
      · rw [h2]
        conv => whnf
        refine ⟨by kernel_rfl, ?_⟩
        conv => whnf
        refine ⟨[], rfl, ?_⟩
        conv => whnf
        exact ⟨⟨⟩, rfl, trivial⟩
    · have h := of_decide_eq_false h
      rw [List.length_map] at h
      try dsimp only at h
      have hc : Rd.cur ⟨l, i, b, o, w⟩ = none := by
        unfold Rd.cur; rw [List.getElem?_eq_none (by dsimp only; omega)]; rfl
      rw [hc]
      conv => whnf
      refine ⟨by kernel_rfl, ?_⟩
      conv => whnf
      refine ⟨[], rfl, ?_⟩
      conv => whnf
      exact ⟨⟨⟩, rfl, trivial⟩
theorem cur_lt' {r : Rd} {k : Int} {t : Bs} (h : r.see k t = true) : r.i < r.l.length := Rd.cur_lt (Rd.see_open h).2
theorem rsign_good' (r : Rd) (t : Bs) (hl : r.l.length ≤ 1000000) : Good Tryz.prog 154 [.ptr 0 0 0, .str t] [r.ob] [.bool (r.see 5 t)] [(r.word 5 t).ob] := by
  refine good_of hP Tryz.func154 (by kernel_rfl) (lv := [0, 1, 4, 5, 9]) (js := []) ⟨rfl, rfl, rfl, rfl, rfl, rfl, _, rfl, ?_⟩
  unfold Rd.word
  conv => whnf
  refine callN [(0, 0)] (see_good r 5 t hl) ?_ 
  conv => whnf
  refine ⟨⟨⟩, rfl, ?_⟩
  cases h : r.see 5 t with
  | false =>
    conv => whnf
    refine ⟨[], rfl, ?_⟩
    conv => whnf
    exact ⟨⟨⟩, rfl, trivial⟩
  | true =>
    have := cur_lt' h
    rw [if_pos rfl]
    have hw : IntKind.i64.wrap ((r.i : Int) + 1) = (r.i + 1 : Nat) := by rw [wr (by omega) (by omega)]; rfl
    conv => whnf
    rw [hw]
    refine ⟨[], rfl, ?_⟩
    conv => whnf
    exact ⟨⟨⟩, rfl, trivial⟩
theorem want_good (r : Rd) (t : Bs) (hl : r.l.length ≤ 1000000) : Good Tryz.prog 94 [.ptr 0 0 0, .str t] [r.ob] [] [(r.want 5 t).ob] := by
  refine good_of hP Tryz.func94 (by kernel_rfl) (lv := [0, 1, 11]) (js := []) ⟨rfl, rfl, rfl, rfl, rfl, rfl, _, rfl, ?_⟩
  unfold Rd.want
  conv => whnf
  refine callN [(0, 0)] (open_good r) ?_ 
  conv => whnf
  refine ⟨⟨⟩, rfl, ?_⟩
  cases ho : r.isOpen with
  | false =>
    have : r.see 5 t = false := by simp [Rd.see, ho]
    rw [this]
    conv => whnf
    refine ⟨[], rfl, ?_⟩
    conv => whnf
    exact ⟨⟨⟩, rfl, trivial⟩
  | true =>
    conv => whnf
    refine callN [(0, 0)] (rsign_good' r t hl) ?_ 
    conv => whnf
    refine ⟨⟨⟩, rfl, ?_⟩
    unfold Rd.word
    cases hs : r.see 5 t with
    | true =>
      rw [if_pos rfl, if_pos rfl]
      conv => whnf
      refine ⟨[], rfl, ?_⟩
      conv => whnf
      exact ⟨⟨⟩, rfl, trivial⟩
    | false =>
      conv => whnf
      refine ⟨[], rfl, ?_⟩
      conv => whnf
      exact ⟨⟨⟩, rfl, trivial⟩
theorem rname_good (r : Rd) (hl : r.l.length ≤ 1000000) (ht : ∀ t ∈ r.l, t.t.length ≤ 1000000) : Good Tryz.prog 93 [.ptr 0 0 0] [r.ob] [.str r.name.1] [r.name.2.ob] := by
  obtain ⟨l, i, b, o, w⟩ := r
  dsimp only at hl ht
  refine good_of hP Tryz.func93 (by kernel_rfl) (lv := [0, 2, 5, 44]) (js := []) ⟨rfl, rfl, rfl, rfl, rfl, rfl, _, rfl, ?_⟩
  unfold Rd.name
  conv => whnf
  refine callN [(0, 0)] (open_good ⟨l, i, b, o, w⟩) ?_ 
  conv => whnf
  refine ⟨⟨⟩, rfl, ?_⟩
  cases Rd.isOpen ⟨l, i, b, o, w⟩ with
  | false =>
    conv => whnf
    refine ⟨[], rfl, ?_⟩
    conv => whnf
    exact ⟨⟨⟩, rfl, trivial⟩
  | true =>
    rw [if_pos rfl]
    conv => whnf
    refine branch_of (fun h => ?_) (fun h => ?_)
    · have h := of_decide_eq_true h
      rw [List.length_map] at h
      try dsimp only at h
      have hc : Rd.cur ⟨l, i, b, o, w⟩ = none := by
        unfold Rd.cur; rw [List.getElem?_eq_none (by dsimp only; omega)]; rfl
      rw [hc]
      conv => whnf
      refine ⟨by kernel_rfl, ?_⟩
      conv => whnf
      refine ⟨[], rfl, ?_⟩
      conv => whnf
      exact ⟨⟨⟩, rfl, trivial⟩
    · have h := of_decide_eq_false h
      rw [List.length_map] at h
      try dsimp only at h
      have hi : i < l.length := by omega
      have hc : Rd.cur ⟨l, i, b, o, w⟩ = some (l[i].k, l[i].t) := by simp [Rd.cur, hi]
      rw [hc]
      conv => whnf
      refine ⟨Tok.c l[i], idxM hi rfl, ?_⟩
      conv => whnf
      refine branch_of (fun h2 => ?_) (fun h2 => ?_)
      · rw [Bool.not_eq_true'] at h2
        have h2 := of_decide_eq_false h2
        have e : ¬ (l[i].k = 1 ∧ nameS l[i].t = true) := fun h => h2 h.1
        dsimp only
        rw [if_neg e]
        conv => whnf
        refine ⟨by kernel_rfl, ?_⟩
        conv => whnf
        refine ⟨[], rfl, ?_⟩
        conv => whnf
        exact ⟨⟨⟩, rfl, trivial⟩
      · rw [Bool.not_eq_false'] at h2
        have h2 := of_decide_eq_true h2
        conv => whnf
        refine ⟨Tok.c l[i], idxM hi rfl, ?_⟩
        conv => whnf
        refine call0 (fname_good l[i].t (ht _ (List.getElem_mem hi))) ?_
        cases hn : nameS l[i].t with
        | false =>
          dsimp only
          rw [if_neg (by simp [hn])]
          conv => whnf
          refine ⟨by kernel_rfl, ?_⟩
          conv => whnf
          refine ⟨[], rfl, ?_⟩
          conv => whnf
          exact ⟨⟨⟩, rfl, trivial⟩
        | true =>
          dsimp only
          rw [if_pos ⟨h2, hn⟩]
          have hw : IntKind.i64.wrap ((i : Int) + 1) = (i + 1 : Nat) := by rw [wr (by omega) (by omega)]; rfl
          conv => whnf
          refine ⟨by kernel_rfl, ?_⟩
          conv => whnf
          rw [hw]
          refine ⟨Tok.c l[i], idxM hi (by rw [wr (by omega) (by omega)]; omega), ?_⟩
          conv => whnf
          refine ⟨by kernel_rfl, ?_⟩
          conv => whnf
          refine ⟨[], rfl, ?_⟩
          conv => whnf
          exact ⟨⟨⟩, rfl, trivial⟩
theorem value_good (t : Tok) (ht : t.t.length ≤ 100000) : Good Tryz.prog 211 [.agg t.c] [] [.agg (valueT (kt t)).c, .bool (valueS (kt t)).isSome] [] := by
  obtain ⟨k, s, p⟩ := t
  dsimp only at ht
  refine good_of hP Tryz.func211 (by kernel_rfl) (lv := [0, 1, 2, 3, 4, 5, 6, 7, 8, 10, 11, 19]) (js := []) ⟨rfl, rfl, rfl, rfl, rfl, rfl, _, rfl, ?_⟩
  unfold valueT valueS kt
  dsimp only
  conv => whnf
  refine branch_of (fun h => ?_) (fun h => ?_)
  · have h := of_decide_eq_true h
    rw [if_pos h, if_pos h]
    conv => whnf
    refine call0 (svar_good s (by omega)) ?_
    conv => whnf
    refine ⟨by kernel_rfl, ?_⟩
    conv => whnf
    refine fin0 ?_ trivial
    cases varS s <;> rfl
  · have h := of_decide_eq_false h
    rw [if_neg h, if_neg h]
    conv => whnf
    refine branch_of (fun h1 => ?_) (fun h1 => ?_)
    · have h1 := of_decide_eq_true h1
      rw [if_pos h1, if_pos h1]
      conv => whnf
      refine call0 (number_good s ht) ?_
      conv => whnf
      refine fin0 ?_ trivial
      cases numberS s <;> rfl
    · have h1 := of_decide_eq_false h1
      rw [if_neg h1, if_neg h1]
      conv => whnf
      refine call0 (parse_good s (by omega)) ?_
      cases hp : parseS s with
      | none =>
        conv => whnf
        exact fin0 rfl trivial
      | some v =>
        conv => whnf
        refine branch_of (fun h2 => ?_) (fun h2 => ?_)
        · have h2 : k = 1 := of_decide_eq_true h2
          conv => whnf
          refine branch_of (fun h3 => ?_) (fun h3 => ?_)
          · have h3 := of_decide_eq_true h3
            have h3 : v.k = 2 := h3
            conv => whnf
            exact fin0 (by simp [h2, h3]) trivial
          · have h3 := of_decide_eq_false h3
            have h3 : ¬ v.k = 2 := h3
            conv => whnf
            refine branch_of (fun h4 => ?_) (fun h4 => ?_)
            · have h4 : k = 4 := of_decide_eq_true h4; omega
            · conv => whnf
              exact fin0 (by simp [h2, h3]) trivial
        · have h2 : ¬ k = 1 := of_decide_eq_false h2
          conv => whnf
          refine branch_of (fun h4 => ?_) (fun h4 => ?_)
          · have h4 : k = 4 := of_decide_eq_true h4
            conv => whnf
            refine fin0 ?_ trivial
            by_cases h5 : v.k = 3 <;> simp [h4, h5]
          · have h4 : ¬ k = 4 := of_decide_eq_false h4
            conv => whnf
            exact fin0 (by simp [h2, h4]) trivial
theorem rterm_good (r : Rd) (hl : r.l.length ≤ 1000000) (ht : ∀ t ∈ r.l, t.t.length ≤ 100000) : Good Tryz.prog 155 [.ptr 0 0 0] [r.ob] [.agg r.term.1.c] [r.term.2.ob] := by
  obtain ⟨l, i, b, o, w⟩ := r
  dsimp only at hl ht
  refine good_of hP Tryz.func155 (by kernel_rfl) (lv := [0, 2, 3, 4, 7, 18, 33]) (js := []) ⟨rfl, rfl, rfl, rfl, rfl, rfl, _, rfl, ?_⟩
  unfold Rd.term
  conv => whnf
  refine callN [(0, 0)] (open_good ⟨l, i, b, o, w⟩) ?_ 
  conv => whnf
  refine ⟨⟨⟩, rfl, ?_⟩
  cases Rd.isOpen ⟨l, i, b, o, w⟩ with
  | false =>
    conv => whnf
    refine ⟨[], rfl, ?_⟩
    conv => whnf
    exact ⟨⟨⟩, rfl, trivial⟩
  | true =>
    rw [if_pos rfl]
    conv => whnf
    refine ⟨by kernel_rfl, ?_⟩
    conv => whnf
    refine branch_of (fun h => ?_) (fun h => ?_)
    · have h := of_decide_eq_true h
      rw [List.length_map] at h
      try dsimp only at h
      have hi : i < l.length := by omega
      have hc : Rd.cur ⟨l, i, b, o, w⟩ = some (kt l[i]) := by simp [Rd.cur, hi]
      rw [hc, Option.bind_some]
      conv => whnf
      refine ⟨Tok.c l[i], idxM hi rfl, ?_⟩
      conv => whnf
      refine call0 (value_good l[i] (ht _ (List.getElem_mem hi))) ?_
      cases hv : valueS (kt l[i]) with
      | none =>
        conv => whnf
        refine ⟨by kernel_rfl, ?_⟩
        conv => whnf
        refine ⟨[], rfl, ?_⟩
        conv => whnf
        exact ⟨⟨⟩, rfl, trivial⟩
      | some t =>
        rw [valueS_T hv]
        have hw : IntKind.i64.wrap ((i : Int) + 1) = (i + 1 : Nat) := by rw [wr (by omega) (by omega)]; rfl
        conv => whnf
        refine ⟨by kernel_rfl, ?_⟩
        conv => whnf
        rw [hw]
        refine ⟨[], rfl, ?_⟩
        conv => whnf
        exact ⟨⟨⟩, rfl, trivial⟩
    · have h := of_decide_eq_false h
      rw [List.length_map] at h
      try dsimp only at h
      have hc : Rd.cur ⟨l, i, b, o, w⟩ = none := by
        unfold Rd.cur; rw [List.getElem?_eq_none (by dsimp only; omega)]; rfl
      rw [hc]
      conv => whnf
      refine ⟨[], rfl, ?_⟩
      conv => whnf
      exact ⟨⟨⟩, rfl, trivial⟩
end Go.PV
namespace Go.PV
open Go Go.Proofs
set_option maxRecDepth 100000
/-- signs that are played -/
def tokB (l : List Tok) : Prop := l.length ≤ 1000000 ∧ ∀ t ∈ l, t.t.length ≤ 100000
theorem tokB_R (s : Bs) (hs : s.length ≤ 20000) : tokB (toksR s) := by
  have hc := chain_R s
  have h1 : (toksR s).length ≤ 1000000 := by
    rcases chain_len hc with h | h
    · omega
    · rw [h]; exact Nat.zero_le _
  refine ⟨h1, fun t ht => ?_⟩
  have h2 := chain_lens hc (Nat.zero_le _)
  have : ∀ l : List Tok, t ∈ l → t.t.length ≤ lens l := fun l => by
    induction l with
    | nil => intro h; cases h
    | cons u l ih =>
      intro h
      simp only [lens, List.map_cons, List.sum_cons] at ih ⊢
      rcases List.mem_cons.1 h with rfl | h
      · omega
      · have := ih h; omega
  have := this _ ht
  omega
theorem take5 {α : Type} (t : α) (ts : List α) (u : α) : (t :: (ts ++ [u])).take 5 = if ts.length + 2 ≤ 5 then (t :: ts).take 5 ++ [u] else (t :: ts).take 5 := by
  rw [← List.cons_append]
  split
  · rw [List.take_of_length_le (by simp; omega), List.take_of_length_le (by simp; omega)]
  · rw [List.take_append_of_le_length (by simp; omega)]
theorem ratom_good (r : Rd) (hb : tokB r.l) : Good Tryz.prog 95 [.ptr 0 0 0] [r.ob] [.agg r.atom.1.c] [r.atom.2.ob] := by
  obtain ⟨hl, ht⟩ := hb
  refine good_of hP Tryz.func95 (by kernel_rfl) (lv := [0, 2, 3, 4, 5, 11, 21, 27, 37]) (js := []) ⟨rfl, rfl, rfl, rfl, rfl, rfl, _, rfl, ?_⟩
  have hn := Rd.name_l r
  conv => whnf
  refine callN [(0, 0)] (rname_good r hl (fun t h => Nat.le_trans (ht t h) (by omega))) ?_ 
  conv => whnf
  refine ⟨⟨⟩, rfl, ?_⟩
  conv => whnf
  refine callN [(0, 0)] (rsign_good' r.name.2 [40] (by rw [hn.1]; exact hl)) ?_ 
  conv => whnf
  refine ⟨⟨⟩, rfl, ?_⟩
  unfold Rd.word
  cases hs : r.name.2.see 5 [40] with
  | false =>
    rw [Rd.atom_no hs]
    conv => whnf
    refine ⟨[], rfl, ?_⟩
    conv => whnf
    exact ⟨⟨⟩, rfl, trivial⟩
  | true =>
    rw [if_pos rfl, Rd.atom_yes hs]
    generalize hx : r.name = x at *
    have h1 := Rd.term_l x.2.step
    conv => whnf
    refine callN [(0, 0)] (rterm_good x.2.step (by rw [show x.2.step.l = x.2.l from rfl, hn.1]; exact hl) (by rw [show x.2.step.l = x.2.l from rfl, hn.1]; exact ht)) ?_ 
    conv => whnf
    refine ⟨⟨⟩, rfl, ?_⟩
    conv => whnf
    refine ⟨⟨⟩, by dsimp only; simp only [List.length_cons, List.length_nil]; omega, ?_⟩
    conv => whnf
    refine ⟨by kernel_rfl, ?_⟩
    conv => whnf
    generalize hy : x.2.step.term = y at *
    have hyl : y.2.l = r.l := h1.1.trans hn.1
    have hF : x.2.l.length = r.l.length := by rw [hn.1]
    rw [hF]
    generalize hU : Rd.args r.l.length y.2 = U
    refine loop_of hP [0, 2, 3, 4, 5, 11, 21, 27, 37] [] [0, 2, 3, 4] [66, 67, 82] [] (fun m st => ∃ (f : Nat) (ts : List Trm) (q : Rd), m = q.l.length - q.i ∧ q.l = r.l ∧ q.l.length ≤ f + q.i ∧ f + ts.length = r.l.length ∧ U = (ts ++ (Rd.args f q).1, (Rd.args f q).2) ∧
      st = ⟨[(0, .ptr 0 0 0), (2, .ptr 66 0 0), (3, .ptr 67 0 0), (4, .int .i64 (ts.length + 1 : Nat))], [(0, q.ob), (66, .box 0 [.str [], .nil]), (67, .box 0 [.str x.1, .own 82 0]), (82, .arr 0 false 4 (trmV ((y.1 :: ts).take 5)))]⟩) (y.2.l.length - y.2.i) ?_ ?_
    · conv => whnf
      exact ⟨r.l.length, [], y.2, rfl, hyl, by rw [hyl]; omega, rfl, hU.symm, rfl⟩
    · rintro m st ⟨f, ts, q, rfl, hq, hf, hts, he, rfl⟩
      conv => whnf
      refine callN [(0, 0)] (rsign_good' q [44] (by rw [hq]; exact hl)) ?_ 
      conv => whnf
      refine ⟨⟨⟩, rfl, ?_⟩
      unfold Rd.word
      cases hs2 : q.see 5 [44] with
      | true =>
        have hlt := cur_lt' hs2
        obtain ⟨f, rfl⟩ : ∃ f', f = f' + 1 := ⟨f - 1, by omega⟩
        rw [Rd.args, if_pos hs2] at he
        rw [if_pos rfl]
        have h2 := Rd.term_l q.step
        conv => whnf
        refine callN [(0, 0)] (rterm_good q.step (by rw [show q.step.l = q.l from rfl, hq]; exact hl) (by rw [show q.step.l = q.l from rfl, hq]; exact ht)) ?_ 
        conv => whnf
        refine ⟨⟨⟩, rfl, ?_⟩
        conv => whnf
        generalize hz : q.step.term = z at *
        have h3 : q.i + 1 ≤ z.2.i := h2.2.1
        have h4 : z.2.l = q.l := h2.1
        have hw : IntKind.i64.wrap (((ts.length + 1 : Nat) : Int) + 1) = (ts.length + 1 + 1 : Nat) := by rw [wr (by omega) (by omega)]; rfl
        have hU2 : U = ((ts ++ [z.1]) ++ (Rd.args f z.2).1, (Rd.args f z.2).2) := by rw [he]; simp
        refine branch_of (fun h5 => ?_) (fun h5 => ?_)
        · have h5 := of_decide_eq_true h5
          rw [hw] at h5
          conv => whnf
          refine ⟨⟨⟩, by dsimp only; simp only [List.length_map, List.length_take, List.length_cons, List.length_nil]; omega, ?_⟩
          conv => whnf
          refine ⟨z.2.l.length - z.2.i, by rw [h4]; omega, f, ts ++ [z.1], z.2, rfl, h4.trans hq, by rw [h4]; omega, by simp; omega, hU2, ?_⟩
          rw [hw, take5, if_pos (by omega), List.length_append, show trmV ((y.1 :: ts).take 5 ++ [z.1]) = trmV ((y.1 :: ts).take 5) ++ [z.1.c] from List.map_append]
          rfl
        · have h5 := of_decide_eq_false h5
          rw [hw] at h5
          conv => whnf
          refine ⟨z.2.l.length - z.2.i, by rw [h4]; omega, f, ts ++ [z.1], z.2, rfl, h4.trans hq, by rw [h4]; omega, by simp; omega, hU2, ?_⟩
          rw [hw, take5, if_neg (by omega), List.length_append]
          rfl
      | false =>
        have hu : Rd.args f q = ([], q) := by cases f <;> simp [Rd.args, hs2]
        rw [hu, List.append_nil] at he
        subst he
        conv => whnf
        refine callN [(0, 0)] (want_good q [41] (by rw [hq]; exact hl)) ?_ 
        conv => whnf
        refine ⟨⟨⟩, rfl, ?_⟩
        conv => whnf
        refine branch_of (fun h5 => ?_) (fun h5 => ?_)
        · have h5 := of_decide_eq_true h5
          rw [if_pos (by dsimp only; omega)]
          conv => whnf
          refine ⟨[], rfl, ?_⟩
          conv => whnf
          exact ⟨⟨⟩, rfl, trivial⟩
        · have h5 := of_decide_eq_false h5
          rw [if_neg (by dsimp only; omega)]
          conv => whnf
          refine ⟨[], rfl, ?_⟩
          conv => whnf
          exact ⟨⟨⟩, rfl, trivial⟩
theorem begin_good (l : List Tok) (i : Int) (hl : l.length ≤ 1000000) : (0 ≤ i ∧ i ≤ l.length → Good Tryz.prog 89 [.sl 4 (toksV l), .int .i64 i] [] [.ptr 0 0 0, .int .i64 0] [(rd0 l i.toNat).ob]) ∧
    (¬ (0 ≤ i ∧ i ≤ l.length) → Good Tryz.prog 89 [.sl 4 (toksV l), .int .i64 i] [] [.ptr 0 0 0, .int .i64 1] [.box 0 [.nil, .int .i64 0, .bool false, .bool false, .bool false]]) := by
  constructor
  · rintro ⟨h0, h1⟩
    obtain ⟨n, rfl⟩ : ∃ n : Nat, i = n := ⟨i.toNat, by omega⟩
    refine good_of hP Tryz.func89 (by kernel_rfl) (lv := [0, 1, 4, 5, 13]) (js := []) ⟨rfl, rfl, rfl, rfl, rfl, rfl, _, rfl, ?_⟩
    conv => whnf
    refine branch_of (fun h => ?_) (fun h => ?_)
    · have h := of_decide_eq_true h
      rw [List.length_map] at h; omega
    conv => whnf
    refine ⟨[(83, 0)], rfl, ?_⟩
    conv => whnf
    exact ⟨⟨⟩, rfl, trivial⟩
  · intro h0
    refine good_of hP Tryz.func89 (by kernel_rfl) (lv := [0, 1, 4, 5, 13]) (js := []) ⟨rfl, rfl, rfl, rfl, rfl, rfl, _, rfl, ?_⟩
    conv => whnf
    refine branch_of (fun h => ?_) (fun h => ?_)
    · conv => whnf
      refine ⟨[(79, 0)], rfl, ?_⟩
      conv => whnf
      exact ⟨⟨⟩, rfl, trivial⟩
    have h := of_decide_eq_false h
    conv => whnf
    refine branch_of (fun h2 => ?_) (fun h2 => ?_)
    · conv => whnf
      refine ⟨[(79, 0)], rfl, ?_⟩
      conv => whnf
      exact ⟨⟨⟩, rfl, trivial⟩
    · have h2 := of_decide_eq_false h2
      rw [List.length_map] at h2; omega
theorem end_good (r : Rd) (a : Nat) : Good Tryz.prog 91 [.ptr 0 0 0, .int .i64 a] [r.ob] [.int .i64 (r.endI a), .int .i64 r.endE] [r.ob] := by
  obtain ⟨l, i, b, o, w⟩ := r
  refine good_of hP Tryz.func91 (by kernel_rfl) (lv := [0, 1, 4, 5, 6, 21]) (js := []) ⟨rfl, rfl, rfl, rfl, rfl, rfl, _, rfl, ?_⟩
  unfold Rd.endI Rd.endE
  cases b with
  | true =>
    conv => whnf
    refine ⟨by kernel_rfl, ?_⟩
    conv => whnf
    refine ⟨[], by dsimp only; rw [if_pos rfl, List.length_map]; congr 3; omega, ?_⟩
    conv => whnf
    exact ⟨⟨⟩, rfl, trivial⟩
  | false =>
    cases o with
    | true =>
      conv => whnf
      refine ⟨[], rfl, ?_⟩
      conv => whnf
      exact ⟨⟨⟩, rfl, trivial⟩
    | false =>
      cases w with
      | true =>
        conv => whnf
        refine ⟨[], rfl, ?_⟩
        conv => whnf
        exact ⟨⟨⟩, rfl, trivial⟩
      | false =>
        conv => whnf
        refine ⟨[], rfl, ?_⟩
        conv => whnf
        exact ⟨⟨⟩, rfl, trivial⟩
end Go.PV
namespace Go.PV
open Go
/-! expressions: their texts, their trees -/
def opT (k : Int) : Bs := if k = 3 then [43] else if k = 4 then [45] else [42]
def nodeT (k : Int) (a b : Bs) : Bs := [40] ++ a ++ [32] ++ opT k ++ [32] ++ b ++ [41]
/-- an expression's tree -/
inductive Tree where
  | leaf (t : Trm)
  | node (k : Int) (a b : Tree)
namespace Tree
def ops : Tree → List Stp
  | leaf t => [⟨if t.v = [] then 2 else 1, t.v, t.x⟩]
  | node k a b => a.ops ++ b.ops ++ [⟨k, [], zeroV⟩]
def ok : Tree → Bool
  | leaf t => termOk t
  | node k a b => decide (k = 3 ∨ k = 4 ∨ k = 5) && a.ok && b.ok
def txt : Tree → Bs
  | leaf t => termT t
  | node k a b => nodeT k a.txt b.txt
/-- its signs -/
def toks : Bs → Tree → List (Bs × KT)
  | b, leaf t => [(b, termK t)]
  | b, node k x y => (b, (5, [40])) :: (x.toks [] ++ ([32], (5, opT k)) :: (y.toks [32] ++ [([], (5, [41]))]))
def size : Tree → Nat
  | leaf _ => 1
  | node _ a b => a.size + b.size + 1
def deep : Tree → Nat
  | leaf _ => 0
  | node _ a b => max a.deep b.deep + 1
theorem weave_toks : ∀ (T : Tree) (b : Bs), weaveK (T.toks b) = b ++ T.txt
  | leaf t, b => by simp [toks, weaveK, txt, termK_T]
  | node k x y, b => by
    simp only [toks, weaveK, weaveK_app, weave_toks x, weave_toks y, txt, nodeT]
    simp
theorem op_tk {k : Int} (h : k = 3 ∨ k = 4 ∨ k = 5) : Tk (5, opT k) := by
  rcases h with rfl | rfl | rfl <;> (unfold Tk; decide +kernel)
theorem txt_head : ∀ {T : Tree}, T.ok = true → ∃ c r, T.txt = c :: r ∧ c.toNat ≠ 61 ∧ c.toNat ≠ 62
  | leaf t, h => by
    simp only [txt, ← termK_T]
    exact tk_head (tk_term h) (termK_5 t)
  | node k x y, h => ⟨40, _, by simp only [txt, nodeT]; rfl, by decide, by decide⟩
theorem wov : ∀ {T : Tree}, T.ok = true → ∀ (b tail : Bs), blk b = true → stopH tail = true → WovK tail (T.toks b)
  | leaf t, h, b, tail, hb, ht => ⟨hb, tk_term h, okEnd_stop ht, trivial⟩
  | node k x y, h, b, tail, hb, ht => by
    simp only [ok, Bool.and_eq_true, decide_eq_true_eq] at h
    refine ⟨hb, rfl, ?_, WovK.app (wov h.1.2 [] _ rfl rfl) ⟨rfl, op_tk h.1.1, ?_, WovK.app (wov h.2 [32] _ rfl rfl) ⟨rfl, rfl, okEnd_stop ht, trivial⟩⟩⟩
    · rw [weaveK_app, weave_toks, List.nil_append, List.append_assoc]
      obtain ⟨c, r, e, h1, h2⟩ := txt_head h.1.2
      rw [e]; exact okEnd_sign (by decide) ⟨h1, h2⟩
    · rw [weaveK_app, weave_toks]; exact okEnd_stop rfl
end Tree
namespace Rd
end Rd
end Go.PV
namespace Go.PV
open Go Go.Proofs
set_option maxRecDepth 100000
/-! what is played -/
def trmH (t : Trm) : Bool := decide (200 < t.v.length) || decide (200 < t.x.s.length)
def atmH (a : Atm) : Bool := decide (200 < a.n.length) || decide (20 < a.a.length) || a.a.any trmH
theorem anyL_step {α : Type} {p : α → Bool} {l : List α} {k : Nat} (h : k < l.length) : (l.drop k).any p = (p l[k] || (l.drop (k + 1)).any p) := by
  rw [List.drop_eq_getElem_cons h]; rfl
theorem anyL_end {α : Type} {p : α → Bool} {l : List α} {k : Nat} (h : l.length ≤ k) : (l.drop k).any p = false := by
  rw [List.drop_eq_nil_iff.2 h]; rfl
theorem heavyA_good (a : Atm) : Good Tryz.prog 33 [.agg a.c] [] [.bool (atmH a)] [] := by
  obtain ⟨na, a⟩ := a
  refine good_of hP Tryz.func33 (by kernel_rfl) (lv := [0, 1, 2, 3, 13, 18, 39]) (js := []) ⟨rfl, rfl, rfl, rfl, rfl, rfl, _, rfl, ?_⟩
  unfold atmH
  dsimp only
  conv => whnf
  refine branch_of (fun h => ?_) (fun h => ?_)
  · have h : 200 < na.length := by have := of_decide_eq_true h; dsimp only at this; omega
    conv => whnf
    exact fin0 (by simp [h]) trivial
  have h1 : ¬ 200 < na.length := by have := of_decide_eq_false h; dsimp only at this; omega
  rw [decide_eq_false h1]
  conv => whnf
  refine branch_of (fun h => ?_) (fun h => ?_)
  · have h := of_decide_eq_true h
    rw [List.length_map] at h
    have h : 20 < a.length := by dsimp only at h; omega
    conv => whnf
    exact fin0 (by simp [h]) trivial
  have h := of_decide_eq_false h
  rw [List.length_map] at h
  have h2 : ¬ 20 < a.length := by dsimp only at h; omega
  rw [decide_eq_false h2]
  conv => whnf
  refine loop_of hP [0, 1, 2, 3, 13, 18, 39] [] [1, 3] [65] [] (fun n st => ∃ k : Nat, n = a.length - k ∧ k ≤ a.length ∧ a.any trmH = (a.drop k).any trmH ∧ st = ⟨[(1, .ptr 65 0 0), (3, .int .i64 k)], [(65, .box 0 [.str na, .sl 4 (trmV a)])]⟩) a.length ?_ ?_
  · conv => whnf
    exact ⟨0, rfl, Nat.zero_le _, rfl, rfl⟩
  · rintro n st ⟨k, rfl, hk, he, rfl⟩
    conv => whnf
    refine branch_of (fun h => ?_) (fun h => ?_)
    · have h := of_decide_eq_true h
      rw [List.length_map] at h
      have hk' : k < a.length := by omega
      rw [anyL_step hk'] at he
      conv => whnf
      refine ⟨Trm.c a[k], idxM hk' rfl, ?_⟩
      conv => whnf
      refine branch_of (fun h3 => ?_) (fun h3 => ?_)
      · have h3 : 200 < a[k].v.length := by have := of_decide_eq_true h3; omega
        conv => whnf
        exact fin0 (by rw [he, trmH]; simp [h3]) trivial
      have h3 : ¬ 200 < a[k].v.length := by have := of_decide_eq_false h3; omega
      conv => whnf
      refine ⟨Trm.c a[k], idxM hk' rfl, ?_⟩
      conv => whnf
      refine branch_of (fun h4 => ?_) (fun h4 => ?_)
      · have h4 : 200 < a[k].x.s.length := by have := of_decide_eq_true h4; omega
        conv => whnf
        exact fin0 (by rw [he, trmH]; simp [h4]) trivial
      have h4 : ¬ 200 < a[k].x.s.length := by have := of_decide_eq_false h4; omega
      rw [trmH, decide_eq_false h3, decide_eq_false h4] at he
      conv => whnf
      refine ⟨a.length - (k + 1), by omega, k + 1, rfl, by omega, by simpa using he, ?_⟩
      rw [wr (by omega) (by omega)]; rfl
    · have h := of_decide_eq_false h
      rw [List.length_map] at h
      conv => whnf
      exact fin0 (by rw [he, anyL_end (by omega)]; rfl) trivial
end Go.PV
namespace Go.PV
open Go Go.Proofs
set_option maxRecDepth 100000
theorem term_good (t : Trm) (h : trmB t) : Good Tryz.prog 148 [.agg t.c] [] [.str (termT t)] [] := by
  obtain ⟨v, x⟩ := t
  refine good_of hP Tryz.func148 (by kernel_rfl) (lv := [0, 1, 2, 3, 7]) (js := []) ⟨rfl, rfl, rfl, rfl, rfl, rfl, _, rfl, ?_⟩
  unfold termT
  dsimp only
  conv => whnf
  refine branch_of (fun h1 => ?_) (fun h1 => ?_)
  · rw [Bool.not_eq_true'] at h1
    have h1 : ¬ v = [] := of_decide_eq_false h1
    rw [if_neg h1]
    conv => whnf
    exact fin0 rfl trivial
  · rw [Bool.not_eq_false'] at h1
    have h1 : v = [] := of_decide_eq_true h1
    rw [if_pos h1]
    conv => whnf
    refine call0 (text_good x h.2) ?_
    conv => whnf
    exact fin0 rfl trivial
end Go.PV
namespace Go.PV
open Go
/-! the page's reader -/
structure Rf where
  l : List Tok
  i : Nat
  ok : Bool
abbrev Rf.ob (r : Rf) : Ob := .box 0 [.sl 4 (toksV r.l), .int .i64 r.i, .bool r.ok]
def refTerm (t : Tok) : Trm :=
  if t.k = 2 then ⟨t.t, zeroV⟩ else if t.k = 3 then ⟨[], ⟨1, (refNumS t.t).getD 0, []⟩⟩ else if t.k = 4 then ⟨[], ⟨3, 0, (refQuotedS t.t).1⟩⟩ else ⟨[], ⟨2, 0, t.t⟩⟩
def tokOk (t : Tok) : Bool := decide (1 ≤ t.k ∧ t.k ≤ 5) && refRight t.k t.t
namespace Rf
def tok (r : Rf) : Option Tok := match r.l[r.i]? with
  | some t => if tokOk t then some t else none
  | none => none
def is (r : Rf) (k : Int) (s : Bs) : Bool := match r.tok with
  | some t => decide (t.k = k) && decide (t.t = s)
  | none => false
def step (r : Rf) : Rf := { r with i := r.i + 1 }
def fail (r : Rf) : Rf := { r with ok := false }
def take (r : Rf) (k : Int) (s : Bs) : Rf := if r.ok && r.is k s then r.step else r.fail
def name (r : Rf) : Bs × Rf := match r.tok with
  | some t => if r.ok = true ∧ t.k = 1 ∧ nameS t.t = true then (t.t, r.step) else ([], r.fail)
  | none => ([], r.fail)
def num (r : Rf) : Int × Rf := match r.tok with
  | some t => if r.ok = true ∧ t.k = 3 then ((refNumS t.t).getD 0, r.step) else (0, r.fail)
  | none => (0, r.fail)
def term (r : Rf) : Trm × Rf := match r.tok with
  | some t => if r.ok = true ∧ t.k ≠ 5 then (refTerm t, r.step) else (zeroT, r.fail)
  | none => (zeroT, r.fail)
def args : Nat → Rf → List Trm × Rf
  | 0, r => ([], r)
  | f + 1, r => if r.ok && r.is 5 [44] then (r.step.term.1 :: (args f r.step.term.2).1, (args f r.step.term.2).2) else ([], r)
def atom (r : Rf) : Atm × Rf :=
  if r.name.2.ok && r.name.2.is 5 [40] then
    (⟨r.name.1, r.name.2.step.term.1 :: (args r.name.2.l.length r.name.2.step.term.2).1⟩, (args r.name.2.l.length r.name.2.step.term.2).2.take 5 [41])
  else (⟨r.name.1, []⟩, r.name.2)
end Rf
/-- the two readers stand alike -/
structure Sim (r : Rd) (q : Rf) : Prop where
  l : r.l = q.l
  i : r.i = q.i
  over : r.over = false
  bad : r.bad = !q.ok
namespace Sim
theorem isOpen {r : Rd} {q : Rf} (h : Sim r q) : r.isOpen = q.ok := by
  unfold Rd.isOpen; rw [h.bad, h.over]; cases q.ok <;> rfl
theorem step {r : Rd} {q : Rf} (h : Sim r q) : Sim r.step q.step := ⟨h.l, by show r.i + 1 = q.i + 1; rw [h.i], h.over, h.bad⟩
theorem fail {r : Rd} {q : Rf} (h : Sim r q) : Sim r.fail q.fail := ⟨h.l, h.i, h.over, rfl⟩
theorem cur {r : Rd} {q : Rf} (h : Sim r q) : r.cur = (q.l[q.i]?).map kt := by unfold Rd.cur; rw [h.l, h.i]
theorem see {r : Rd} {q : Rf} (h : Sim r q) {k : Int} {s : Bs} (hk : tokOk ⟨k, s, (0, 0)⟩ = true) : r.see k s = (q.ok && q.is k s) := by
  unfold Rd.see Rf.is Rf.tok
  rw [h.isOpen, h.cur]
  congr 1
  cases hg : q.l[q.i]? with
  | none => rfl
  | some t =>
    dsimp only [Option.map_some]
    by_cases e : t.k = k ∧ t.t = s
    · obtain ⟨e1, e2⟩ := e
      have ht : tokOk t = true := by unfold tokOk at hk ⊢; rw [e1, e2]; exact hk
      rw [ht, if_pos rfl]; simp [kt, e1, e2]
    · have e1 : decide (some (kt t) = some (k, s)) = false := by
        rw [decide_eq_false_iff_not]; intro h; simp only [Option.some.injEq, Prod.mk.injEq, kt] at h; exact e h
      rw [e1]
      split
      · rename_i u hu
        split at hu
        · cases hu
          symm; rw [Bool.and_eq_false_iff, decide_eq_false_iff_not, decide_eq_false_iff_not]
          by_cases h1 : t.k = k
          · exact .inr fun h2 => e ⟨h1, h2⟩
          · exact .inl h1
        · cases hu
      · rfl
theorem want {r : Rd} {q : Rf} (h : Sim r q) {k : Int} {s : Bs} (hk : tokOk ⟨k, s, (0, 0)⟩ = true) : Sim (r.want k s) (q.take k s) := by
  unfold Rd.want Rf.take
  rw [h.see hk]
  cases hq : q.ok && q.is k s with
  | true => exact h.step
  | false =>
    rw [if_neg (by simp)]
    cases ho : q.ok with
    | true => rw [if_pos (by rw [h.isOpen, ho])]; exact h.fail
    | false => rw [if_neg (by rw [h.isOpen, ho]; simp)]; exact ⟨h.l, h.i, h.over, by rw [h.bad, ho]; rfl⟩
theorem shut {r : Rd} {q : Rf} (h : Sim r q) (ho : q.ok = false) : Sim r q.fail := ⟨h.l, h.i, h.over, by rw [h.bad, ho]; rfl⟩
theorem name {r : Rd} {q : Rf} (h : Sim r q) : r.name.1 = q.name.1 ∧ Sim r.name.2 q.name.2 := by
  unfold Rd.name Rf.name Rf.tok
  rw [h.isOpen, h.cur]
  cases ho : q.ok with
  | false =>
    have hs := h.shut ho
    rw [if_neg (by simp)]
    split
    · rw [if_neg (by simp)]; exact ⟨rfl, hs⟩
    · exact ⟨rfl, hs⟩
  | true =>
    rw [if_pos rfl]
    cases hg : q.l[q.i]? with
    | none => exact ⟨rfl, h.fail⟩
    | some t =>
      dsimp only [Option.map_some]
      by_cases e : t.k = 1 ∧ nameS t.t = true
      · have ht : tokOk t = true := by
          unfold tokOk refRight; rw [e.1, if_pos rfl, nameS_word e.2]; rfl
        rw [if_pos e, ht, if_pos rfl]
        dsimp only
        rw [if_pos ⟨rfl, e⟩]
        exact ⟨rfl, h.step⟩
      · rw [if_neg e]
        split
        · rename_i u hu
          split at hu
          · cases hu
            rw [if_neg (fun x => e x.2)]
            exact ⟨rfl, h.fail⟩
          · cases hu
        · exact ⟨rfl, h.fail⟩
theorem tok1 (s : Bs) (p : Int × Int) : tokOk ⟨1, s, p⟩ = refWordS false s := by simp [tokOk, refRight]
theorem tok2 (s : Bs) (p : Int × Int) : tokOk ⟨2, s, p⟩ = varS s := by simp [tokOk, refRight, varS]
theorem tok3 (s : Bs) (p : Int × Int) : tokOk ⟨3, s, p⟩ = (refNumS s).isSome := by simp [tokOk, refRight]
theorem tok4 (s : Bs) (p : Int × Int) : tokOk ⟨4, s, p⟩ = (refQuotedS s).2 := by simp [tokOk, refRight]
theorem value (t : Tok) : valueS (kt t) = if tokOk t = true ∧ t.k ≠ 5 then some (refTerm t) else none := by
  obtain ⟨k, s, p⟩ := t
  show valueS (k, s) = _
  dsimp only
  by_cases h2 : k = 2
  · subst h2
    have e1 : valueS (2, s) = if varS s = true then some ⟨s, zeroV⟩ else none := rfl
    have e2 : refTerm ⟨2, s, p⟩ = ⟨s, zeroV⟩ := rfl
    rw [e1, e2, tok2]
    cases varS s
    · rw [if_neg (by simp), if_neg (by simp)]
    · rw [if_pos rfl, if_pos ⟨rfl, by omega⟩]
  by_cases h3 : k = 3
  · subst h3
    have e1 : valueS (3, s) = (numberS s).map fun v => ⟨[], v⟩ := rfl
    have e2 : refTerm ⟨3, s, p⟩ = ⟨[], ⟨1, (refNumS s).getD 0, []⟩⟩ := rfl
    rw [e1, e2, tok3, number_ref]
    cases refNumS s with
    | none => rw [if_neg (by simp)]; rfl
    | some n => rw [if_pos ⟨rfl, by omega⟩]; rfl
  have e1 : valueS (k, s) = match parseS s with
    | some v => if (k = 1 ∧ v.k = 2) ∨ (k = 4 ∧ v.k = 3) then some ⟨[], v⟩ else none
    | none => none := by unfold valueS; rw [if_neg h2, if_neg h3]; rfl
  rw [e1]
  by_cases h1 : k = 1
  · subst h1
    have e2 : refTerm ⟨1, s, p⟩ = ⟨[], ⟨2, 0, s⟩⟩ := rfl
    rw [e2, tok1]
    cases hw : refWordS false s with
    | true =>
      rw [← symbol_word] at hw
      rw [parse_sym hw, if_pos ⟨rfl, by omega⟩]
      dsimp only
      rw [if_pos (.inl ⟨rfl, rfl⟩)]
    | false =>
      rw [if_neg (by simp)]
      cases hp : parseS s with
      | none => rfl
      | some v =>
        dsimp only
        rw [if_neg]
        rintro (⟨_, h⟩ | ⟨h, _⟩)
        · obtain ⟨c1, c2⟩ := parse_some hp
          rcases check_cases c1 with ⟨c, _⟩ | ⟨_, _, c3, c4⟩ | ⟨c, _⟩
          · omega
          · rw [c4] at c2; rw [c2, symbol_word, hw] at c3; cases c3
          · omega
        · omega
  by_cases h4 : k = 4
  · subst h4
    have e2 : refTerm ⟨4, s, p⟩ = ⟨[], ⟨3, 0, (refQuotedS s).1⟩⟩ := rfl
    rw [e2, tok4]
    have hq := quoted_ref (t := s)
    cases hr : (refQuotedS s).2 with
    | true =>
      obtain ⟨v, hv, hk⟩ := hq.1.1 hr
      rw [hv, if_pos ⟨rfl, by omega⟩]
      dsimp only
      rw [if_pos (.inr ⟨rfl, hk⟩), hq.2 v hv hk]
    | false =>
      rw [if_neg (by simp)]
      cases hp : parseS s with
      | none => rfl
      | some v =>
        dsimp only
        rw [if_neg]
        rintro (⟨h, _⟩ | ⟨_, h⟩)
        · omega
        · rw [hq.1.2 ⟨v, hp, h⟩] at hr; cases hr
  have h5 : ¬ (tokOk ⟨k, s, p⟩ = true ∧ k ≠ 5) := by
    rintro ⟨h, h5⟩
    unfold tokOk at h
    rw [Bool.and_eq_true, decide_eq_true_eq] at h
    have := h.1
    dsimp only at this
    omega
  rw [if_neg h5]
  cases parseS s with
  | none => rfl
  | some v => dsimp only; rw [if_neg (by omega)]
theorem term {r : Rd} {q : Rf} (h : Sim r q) : r.term.1 = q.term.1 ∧ Sim r.term.2 q.term.2 := by
  unfold Rd.term Rf.term Rf.tok
  rw [h.isOpen, h.cur]
  cases ho : q.ok with
  | false =>
    have hs := h.shut ho
    rw [if_neg (by simp)]
    split
    · rw [if_neg (by simp)]; exact ⟨rfl, hs⟩
    · exact ⟨rfl, hs⟩
  | true =>
    rw [if_pos rfl]
    cases hg : q.l[q.i]? with
    | none => exact ⟨rfl, h.fail⟩
    | some t =>
      dsimp only [Option.map_some, Option.bind_some]
      rw [value]
      by_cases e : tokOk t = true ∧ t.k ≠ 5
      · rw [if_pos e, e.1, if_pos rfl]
        dsimp only
        rw [if_pos ⟨rfl, e.2⟩]
        exact ⟨rfl, h.step⟩
      · rw [if_neg e]
        dsimp only
        split
        · rename_i u hu
          split at hu
          · rename_i h1
            cases hu
            rw [if_neg (fun x => e ⟨h1, x.2⟩)]
            exact ⟨rfl, h.fail⟩
          · cases hu
        · exact ⟨rfl, h.fail⟩
theorem num {r : Rd} {q : Rf} (h : Sim r q) : r.num.1 = q.num.1 ∧ Sim r.num.2 q.num.2 := by
  unfold Rd.num Rf.num Rf.tok
  rw [h.isOpen, h.cur]
  cases ho : q.ok with
  | false =>
    have hs := h.shut ho
    rw [if_neg (by simp)]
    split
    · rw [if_neg (by simp)]; exact ⟨rfl, hs⟩
    · exact ⟨rfl, hs⟩
  | true =>
    rw [if_pos rfl]
    cases hg : q.l[q.i]? with
    | none => exact ⟨rfl, h.fail⟩
    | some t =>
      dsimp only [Option.map_some]
      by_cases h3 : t.k = 3
      · rw [if_pos h3, number_ref]
        have e : tokOk t = (refNumS t.t).isSome := by unfold tokOk refRight; rw [h3]; simp
        rw [e]
        cases hn : refNumS t.t with
        | none => exact ⟨rfl, h.fail⟩
        | some n =>
          dsimp only [Option.map_some, Option.isSome_some]
          rw [if_pos rfl]
          dsimp only
          rw [if_pos ⟨rfl, h3⟩, hn]
          exact ⟨rfl, h.step⟩
      · rw [if_neg h3]
        dsimp only
        split
        · rename_i u hu
          split at hu
          · cases hu
            rw [if_neg (fun x => h3 x.2)]
            exact ⟨rfl, h.fail⟩
          · cases hu
        · exact ⟨rfl, h.fail⟩
theorem args : ∀ (f : Nat) {r : Rd} {q : Rf}, Sim r q → (Rd.args f r).1 = (Rf.args f q).1 ∧ Sim (Rd.args f r).2 (Rf.args f q).2
  | 0, r, q, h => ⟨rfl, h⟩
  | f + 1, r, q, h => by
    unfold Rd.args Rf.args
    rw [h.see (by decide +kernel)]
    cases q.ok && q.is 5 [44] with
    | false => exact ⟨rfl, h⟩
    | true =>
      rw [if_pos rfl, if_pos rfl]
      have h1 := h.step.term
      have h2 := args f h1.2
      exact ⟨by dsimp only; rw [h1.1, h2.1], h2.2⟩
theorem wrong {r : Rd} {q : Rf} (h : Sim r q) (b : Bool) : Sim { r with wrong := b } q := ⟨h.l, h.i, h.over, h.bad⟩
theorem args_w : ∀ (f : Nat) (r : Rd), (Rd.args f r).2.wrong = r.wrong
  | 0, r => rfl
  | f + 1, r => by
    unfold Rd.args
    split
    · dsimp only
      rw [args_w f]
      show r.step.term.2.wrong = r.wrong
      unfold Rd.term
      split
      · split <;> rfl
      · rfl
    · rfl
/-- an atom: the same; too many arguments are cut off -/
theorem atom {r : Rd} {q : Rf} (h : Sim r q) : r.atom.1 = ⟨q.atom.1.n, q.atom.1.a.take 5⟩ ∧ Sim r.atom.2 q.atom.2 ∧ (r.wrong = false → r.atom.2.wrong = decide (5 < q.atom.1.a.length)) := by
  have h1 := h.name
  have hw : r.name.2.wrong = r.wrong := by
    unfold Rd.name
    split
    · split
      · split <;> rfl
      · rfl
    · rfl
  have hs := h1.2.see (k := 5) (s := [40]) (by decide +kernel)
  cases hq : q.name.2.ok && q.name.2.is 5 [40] with
  | false =>
    rw [hq] at hs
    rw [Rd.atom_no hs]
    unfold Rf.atom; rw [hq, if_neg (by simp)]
    exact ⟨by rw [h1.1]; rfl, h1.2, fun h0 => by dsimp only; rw [hw, h0]; rfl⟩
  | true =>
    rw [hq] at hs
    rw [Rd.atom_yes hs]
    unfold Rf.atom; rw [hq, if_pos rfl]
    have h2 := h1.2.step.term
    have hl : r.name.2.l.length = q.name.2.l.length := by rw [h1.2.l]
    have h3 := args q.name.2.l.length h2.2
    have h4 := h3.2.want (k := 5) (s := [41]) (by decide +kernel)
    rw [hl]
    refine ⟨by dsimp only; rw [h1.1, h2.1, h3.1], ?_, fun h0 => ?_⟩
    · split
      · exact h4.wrong true
      · exact h4
    · have hww : ∀ (x : Rd) k s, (x.want k s).wrong = x.wrong := fun x k s => by
        unfold Rd.want; split
        · rfl
        · split <;> rfl
      have ht : r.name.2.step.term.2.wrong = r.wrong := by
        rw [← hw]
        unfold Rd.term
        split
        · split <;> rfl
        · rfl
      rw [h3.1]
      dsimp only
      rw [List.length_cons]
      split
      · rename_i h5; rw [decide_eq_true h5]
      · rename_i h5; rw [hww, args_w, ht, h0, decide_eq_false h5]
end Sim
namespace Rf
theorem name_l (r : Rf) : r.name.2.l = r.l ∧ r.i ≤ r.name.2.i := by
  unfold name
  split
  · split
    · exact ⟨rfl, Nat.le_succ _⟩
    · exact ⟨rfl, Nat.le_refl _⟩
  · exact ⟨rfl, Nat.le_refl _⟩
theorem term_l (r : Rf) : r.term.2.l = r.l ∧ r.i ≤ r.term.2.i ∧ r.term.2.i ≤ r.i + 1 := by
  unfold term
  split
  · split
    · exact ⟨rfl, Nat.le_succ _, Nat.le_refl _⟩
    · exact ⟨rfl, Nat.le_refl _, Nat.le_succ _⟩
  · exact ⟨rfl, Nat.le_refl _, Nat.le_succ _⟩
theorem take_l (r : Rf) (k : Int) (s : Bs) : (r.take k s).l = r.l ∧ r.i ≤ (r.take k s).i := by
  unfold take
  split
  · exact ⟨rfl, Nat.le_succ _⟩
  · exact ⟨rfl, Nat.le_refl _⟩
end Rf
end Go.PV
namespace Go.PV
open Go
/-! facts, traces -/
structure Fct where
  n : Bs
  a : List Val
abbrev valV (l : List Val) : List (List V) := l.map Val.c
abbrev Fct.c (f : Fct) : List V := [.str f.n, .sl 3 (valV f.a)]
instance : DecidableEq Fct := fun a b => decidable_of_iff (a.n = b.n ∧ a.a = b.a) (by cases a; cases b; simp)
def Fct.at (f : Fct) : Atm := ⟨f.n, f.a.map fun v => ⟨[], v⟩⟩
def Atm.gr (a : Atm) : Fct := ⟨a.n, a.a.map Trm.x⟩
theorem weaveK_atomK (b : Bs) (a : Atm) : weaveK (atomK b a) = b ++ atomT a := by
  unfold atomT atomK; simp [weaveK]
end Go.PV
namespace Go.PV
open Go
/-! law 10: what is written of an atom, of an expression, is read -/
theorem join_tailK : ∀ l : List Trm, weaveK (tailK l) = Lib.joinTail [44, 32] (l.map termT) ++ [41]
  | [] => by simp [tailK, weaveK, Lib.joinTail]
  | t :: r => by
    have ih := join_tailK r
    simp only [Lib.joinTail] at ih
    simp only [tailK, weaveK, List.nil_append, List.map_cons, Lib.joinTail, List.flatten_cons, ih, termK_T, List.append_assoc]
    rfl
theorem atomT_nil {a : Atm} (h : a.a = []) : atomT a = a.n := by
  unfold atomT atomK; rw [h]; simp [argsK, weaveK]
theorem atomT_join {a : Atm} (h : a.a ≠ []) : a.n ++ [40] ++ Lib.join (a.a.map termT) [44, 32] ++ [41] = atomT a := by
  obtain ⟨n, l⟩ := a
  cases l with
  | nil => exact absurd rfl h
  | cons t r =>
    unfold atomT atomK
    simp only [argsK, weaveK, join_tailK, List.map_cons, Lib.join_cons, termK_T]
    simp
namespace Tree
theorem txt_len : ∀ {T : Tree}, T.ok = true → T.txt.length ≤ 130 * T.size
  | leaf t, h => by have := termT_len h; simp only [txt, size]; omega
  | node k a b, h => by
    simp only [ok, Bool.and_eq_true, decide_eq_true_eq] at h
    have h1 := txt_len h.1.2
    have h2 := txt_len h.2
    have h3 : (opT k).length = 1 := by unfold opT; split; rfl; split <;> rfl
    simp only [txt, nodeT, size, List.length_append, List.length_cons, List.length_nil, h3]; omega
end Tree
theorem termOk_len {t : Trm} (h : termOk t = true) : t.v.length ≤ 24 ∧ t.x.s.length ≤ 60 := by
  unfold termOk at h
  split at h
  · rename_i hv
    refine ⟨by rw [hv]; exact Nat.zero_le _, ?_⟩
    rcases check_cases h with ⟨_, _, h3, _⟩ | ⟨_, _, h3, _⟩ | ⟨_, _, h3, _⟩
    · rw [h3]; exact Nat.zero_le _
    · simp [symbolS] at h3; omega
    · simp [plainS] at h3; omega
  · simp only [Bool.and_eq_true, decide_eq_true_eq] at h
    have h1 := h.1
    simp [varS, refWordS] at h1
    exact ⟨by omega, by rw [h.2]; exact Nat.zero_le _⟩
end Go.PV
namespace Go.PV
open Go Go.Proofs
set_option maxRecDepth 100000
theorem atomText_good (a : Atm) (h : atmB a) : Good Tryz.prog 88 [.agg a.c] [] [.str (if atomOk a then atomT a else []), .int .i64 (if atomOk a then 0 else 1)] [] := by
  refine good_of hP Tryz.func88 (by kernel_rfl) (lv := [0, 1, 2, 3, 4, 5, 7, 11, 14, 15, 16, 17, 28]) (js := []) ⟨rfl, rfl, rfl, rfl, rfl, rfl, _, rfl, ?_⟩
  conv => whnf
  refine call0 (mcheck_good a h) ?_
  cases hk : atomOk a with
  | false =>
    conv => whnf
    exact fin0 rfl trivial
  | true =>
    have hl : a.a.length ≤ 5 := by unfold atomOk at hk; simp at hk; exact hk.1.2
    have hok : ∀ t ∈ a.a, termOk t = true := by unfold atomOk at hk; simp at hk; exact hk.2
    have hn : a.n.length ≤ 1000000 := h.1
    conv => whnf
    refine loop_of hP [0, 1, 2, 3, 4, 5, 7, 11, 14, 15, 16, 17, 28] [] [1, 5, 14, 15, 16] [65, 69] [.slot 5 1] (fun n st => ∃ k : Nat, n = a.a.length - k ∧ k ≤ a.a.length ∧ st = ⟨[(1, .ptr 65 0 0), (5, .own 69 0), (14, .sl 4 (trmV a.a)), (15, .int .i64 a.a.length), (16, .int .i64 k)], [(65, .box 0 [.str a.n, .sl 4 (trmV a.a)]), (69, .arr 0 false 1 (strV ((a.a.take k).map termT)))]⟩) a.a.length ?_ ?_
    · conv => whnf
      exact ⟨0, rfl, Nat.zero_le _, by rw [← List.length_map (f := Trm.c)]; rfl⟩
    · rintro n st ⟨k, rfl, hkl, rfl⟩
      conv => whnf
      refine branch_of (fun h1 => ?_) (fun h1 => ?_)
      · have h1 := of_decide_eq_true h1
        have hk' : k < a.a.length := by omega
        conv => whnf
        refine ⟨Trm.c a.a[k], idxM hk' rfl, ?_⟩
        conv => whnf
        refine call0 (term_good a.a[k] (h.2.2 _ (List.getElem_mem hk'))) ?_
        conv => whnf
        refine ⟨⟨⟩, by dsimp only; simp only [List.length_map, List.length_take, List.length_cons, List.length_nil]; omega, ?_⟩
        conv => whnf
        refine ⟨a.a.length - (k + 1), by omega, k + 1, rfl, by omega, ?_⟩
        rw [wr (by omega) (by omega), map_snoc _ a.a hk', show strV ((a.a.take k).map termT ++ [termT a.a[k]]) = strV ((a.a.take k).map termT) ++ [[.str (termT a.a[k])]] from List.map_append]
        rfl
      · have h1 := of_decide_eq_false h1
        have : k = a.a.length := by omega
        subst this
        rw [List.take_length]
        have hjl : (Lib.join (a.a.map termT) [44, 32]).length ≤ 1000000 := by
          by_cases hz : a.a = []
          · rw [hz]; exact Nat.zero_le _
          · have e := congrArg List.length (atomT_join hz)
            have := atomT_len hk
            simp only [List.length_append] at e
            omega
        conv => whnf
        refine branch_of (fun h2 => ?_) (fun h2 => ?_)
        · have h2 := of_decide_eq_true h2
          rw [List.length_map, List.length_map] at h2
          have hz : a.a = [] := List.eq_nil_of_length_eq_zero (by omega)
          conv => whnf
          exact fin0 (by rw [if_pos rfl, if_pos rfl, atomT_nil hz]) trivial
        · have h2 := of_decide_eq_false h2
          rw [List.length_map, List.length_map] at h2
          have hz : a.a ≠ [] := fun e => by rw [e] at h2; exact h2 rfl
          conv => whnf
          refine ⟨⟨⟩, by dsimp only; simp only [List.length_cons, List.length_nil]; omega, ?_⟩
          conv => whnf
          refine call0 (join_good (a.a.map termT) [44, 32] (by simp; omega) (by omega)) ?_
          conv => whnf
          refine ⟨⟨⟩, by dsimp only; simp only [List.length_append, List.length_cons, List.length_nil]; omega, ?_⟩
          conv => whnf
          refine ⟨⟨⟩, by dsimp only; simp only [List.length_append, List.length_cons, List.length_nil]; omega, ?_⟩
          conv => whnf
          refine ⟨by kernel_rfl, ?_⟩
          conv => whnf
          exact fin0 (by rw [if_pos rfl, if_pos rfl, ← atomT_join hz]) trivial
end Go.PV
namespace Go.PV
open Go
/-! law 14: traces, written and read -/
/-! how long a trace's text can be that is read of a text -/
def ln (l : List Tok) (i : Nat) : Nat := lens (l.take i)
namespace Rd
end Rd
end Go.PV
namespace Go.PV
open Go
/-! law 14: a line ahead of a text -/
namespace Rd
variable (pre : List Tok)
end Rd
def okTs : List Tok := [⟨1, [111, 107], (1, 1)⟩, ⟨5, [40], (1, 3)⟩, ⟨3, [49], (1, 4)⟩, ⟨5, [41], (1, 5)⟩, ⟨5, [46], (1, 6)⟩]
theorem hkk : okTs.map kt = (atomK [] (⟨[111, 107], [⟨1, 1, []⟩]⟩ : Fct).at).map (·.2) ++ [(5, [46])] := by decide +kernel
end Go.PV
namespace Go.PV
open Go
/-! rules -/
structure Cnd where
  k : Int
  a : Atm
  h : Int
  l : List Stp
  r : List Stp
abbrev Cnd.c (x : Cnd) : List V := [.int .i64 x.k, .str x.a.n, .sl 4 (trmV x.a.a), .int .i64 x.h, .sl 5 (stpV x.l), .sl 5 (stpV x.r)]
abbrev opsV (l : List (List Stp)) : List (List V) := l.map fun x => [.sl 5 (stpV x)]
structure Act where
  k : Int
  n : Bs
  a : List (List Stp)
  w : Int
abbrev Act.c (x : Act) : List V := [.int .i64 x.k, .str x.n, .sl 1 (opsV x.a), .int .i64 x.w]
abbrev cndV (l : List Cnd) : List (List V) := l.map Cnd.c
abbrev actV (l : List Act) : List (List V) := l.map Act.c
structure Rul where
  n : Bs
  p : Int
  c : List Cnd
  a : List Act
abbrev Rul.v (x : Rul) : List V := [.str x.n, .int .i64 x.p, .sl 6 (cndV x.c), .sl 4 (actV x.a)]
instance : DecidableEq Cnd := fun a b => decidable_of_iff (a.k = b.k ∧ a.a = b.a ∧ a.h = b.h ∧ a.l = b.l ∧ a.r = b.r) (by cases a; cases b; simp)
instance : DecidableEq Act := fun a b => decidable_of_iff (a.k = b.k ∧ a.n = b.n ∧ a.a = b.a ∧ a.w = b.w) (by cases a; cases b; simp)
instance : DecidableEq Rul := fun a b => decidable_of_iff (a.n = b.n ∧ a.p = b.p ∧ a.c = b.c ∧ a.a = b.a) (by cases a; cases b; simp)
theorem name_len {s : Bs} (h : nameS s = true) : s.length ≤ 24 := by
  unfold nameS refWordS at h
  simp at h; omega
end Go.PV
namespace Go.PV
open Go
/-! the program's reader of rules -/
namespace Rd
def way (r : Rd) : Int × Rd :=
  if r.see 5 [61] then (1, r.step) else if r.see 5 [33, 61] then (2, r.step) else if r.see 5 [60] then (3, r.step) else if r.see 5 [60, 61] then (4, r.step) else (0, if r.isOpen then r.fail else r)
def condR (r : Rd) : Cnd × Rd :=
  if r.see 5 [91] then
    let a := r.step.expr
    let w := a.2.way
    let b := w.2.expr
    (⟨3, zeroA, w.1, a.1, b.1⟩, b.2.want 5 [93])
  else if r.see 1 [110, 111, 116] then let a := r.step.atom; (⟨2, a.1, 0, [], []⟩, a.2)
  else let a := r.atom; (⟨1, a.1, 0, [], []⟩, a.2)
/-- more of them, behind commas -/
def many {α : Type} (g : Rd → α × Rd) : Nat → Rd → List α × Rd
  | 0, r => ([], r)
  | f + 1, r => if r.see 5 [44] then ((g r.step).1 :: (many g f (g r.step).2).1, (many g f (g r.step).2).2) else ([], r)
def back (r : Rd) : Rd := { r with i := r.i - 1, bad := true }
def actR (r : Rd) : Act × Rd :=
  if r.see 1 [100, 114, 111, 112] then
    let x := r.step.num
    (⟨2, [], [], x.1⟩, if x.2.isOpen && decide (x.1 < 0) then x.2.back else x.2)
  else
    let x := (r.want 5 [43]).name
    if x.2.see 5 [40] then
      let a := x.2.step.expr
      let b := many expr r.l.length a.2
      (⟨1, x.1, (a.1 :: b.1).take 6, 0⟩, b.2.want 5 [41])
    else (⟨1, x.1, [], 0⟩, x.2)
def rule (r : Rd) : Rul × Rd :=
  let n := (r.want 1 [114, 117, 108, 101]).name
  let p := n.2.num
  let c := (p.2.want 5 [58]).condR
  let d := many condR r.l.length c.2
  let a := (d.2.want 5 [45, 62]).actR
  let b := many actR r.l.length a.2
  (⟨n.1, p.1, (c.1 :: d.1).take 7, (a.1 :: b.1).take 7⟩, b.2.want 5 [46])
end Rd
end Go.PV
namespace Go.PV
open Go
/-! what is read of rules is short -/
def trmS (t : Trm) : Prop := t.v.length ≤ 1000000 ∧ t.x.s.length ≤ 1000000
def stpS (o : Stp) : Prop := o.v.length ≤ 1000000 ∧ o.x.s.length ≤ 1000000
namespace Rd
theorem term_s (r : Rd) : trmS r.term.1 := by
  unfold term
  split
  · split
    · rename_i t ht
      obtain ⟨x, _, hx⟩ := Option.bind_eq_some_iff.1 ht
      have := termOk_len (value_ok hx)
      exact ⟨by show t.v.length ≤ _; omega, by show t.x.s.length ≤ _; omega⟩
    · exact ⟨Nat.zero_le _, Nat.zero_le _⟩
  · exact ⟨Nat.zero_le _, Nat.zero_le _⟩
theorem name_s (r : Rd) : r.name.1.length ≤ 1000000 := by
  unfold name
  split
  · split
    · split
      · rename_i h; have := name_len h.2; dsimp only; omega
      · exact Nat.zero_le _
    · exact Nat.zero_le _
  · exact Nat.zero_le _
theorem args_s : ∀ (f : Nat) (r : Rd), ∀ t ∈ (args f r).1, trmS t
  | 0, r => fun t ht => by cases ht
  | f + 1, r => by
    rw [args]
    split
    · intro t ht
      rcases List.mem_cons.1 ht with rfl | ht
      · exact term_s _
      · exact args_s f _ t ht
    · intro t ht; cases ht
theorem atom_s (r : Rd) : r.atom.1.n.length ≤ 1000000 ∧ r.atom.1.a.length ≤ 1000000 ∧ ∀ t ∈ r.atom.1.a, t.v.length ≤ 1000000 ∧ t.x.s.length ≤ 1000000 := by
  unfold atom
  dsimp only
  split
  · unfold brack
    dsimp only
    refine ⟨name_s r, by rw [List.length_take]; omega, fun t ht => ?_⟩
    rcases List.mem_cons.1 (List.mem_of_mem_take ht) with rfl | ht
    · exact term_s _
    · exact args_s _ _ t ht
  · exact ⟨name_s r, Nat.zero_le _, fun t ht => by cases ht⟩
theorem part_s : ∀ (n : Nat) (r : Rd), ∀ o ∈ (part n r).1, stpS o
  | 0, r => by
    unfold part
    split
    · intro o ho; cases ho
    · intro o ho
      rw [List.mem_singleton] at ho
      subst ho
      exact term_s r
  | n + 1, r => by
    rw [part]
    split
    · dsimp only
      split
      · intro o ho
        rw [List.mem_append, List.mem_append, List.mem_singleton] at ho
        rcases ho with (ho | ho) | rfl
        · exact part_s n _ o ho
        · exact part_s n _ o ho
        · exact ⟨Nat.zero_le _, Nat.zero_le _⟩
      · intro o ho; cases ho
    · intro o ho
      rw [List.mem_singleton] at ho
      subst ho
      exact term_s r
end Rd
end Go.PV
namespace Go.PV
open Go
/-! rules: what is written is read -/
theorem weave_atom (b : Bs) (a : Atm) : weaveK (atomK b a) = b ++ atomT a := weaveK_atomK b a
end Go.PV
namespace Go.PV
open Go
/-! a rule's text is read as it -/
namespace Rd
end Rd
end Go.PV
namespace Go.PV
open Go
set_option linter.unusedSimpArgs false
/-! formulas -/
structure Nod where
  k : Int
  a : Atm
  x : Int
  y : Int
abbrev Nod.c (o : Nod) : List V := [.int .i64 o.k, .str o.a.n, .sl 4 (trmV o.a.a), .int .i64 o.x, .int .i64 o.y]
abbrev nodV (l : List Nod) : List (List V) := l.map Nod.c
instance : DecidableEq Nod := fun a b => decidable_of_iff (a.k = b.k ∧ a.a = b.a ∧ a.x = b.x ∧ a.y = b.y) (by cases a; cases b; simp)
def armsN (k : Int) : Int := if k = 1 then 0 else if k = 2 ∨ k = 5 ∨ k = 6 ∨ k = 7 then 1 else if k = 3 ∨ k = 4 ∨ k = 8 then 2 else -1
/-- a node behind others: where its own begin, how deep it is -/
def nodS (acc : List (Nat × Nat)) (o : Nod) : Option (Nat × Nat) :=
  if armsN o.k = 0 then (if o.x = 0 ∧ o.y = 0 ∧ atomOk o.a = true then some (acc.length, 1) else none)
  else if armsN o.k = 1 then match acc.getLast? with
    | some p => if o.x = (acc.length : Int) - 1 ∧ o.y = 0 ∧ o.a = zeroA then some (p.1, p.2 + 1) else none
    | none => none
  else if armsN o.k = 2 then match acc.getLast? with
    | some p => if o.y = (acc.length : Int) - 1 ∧ 1 ≤ p.1 ∧ o.x = (p.1 : Int) - 1 ∧ o.a = zeroA then
        match acc[p.1 - 1]? with
        | some q => some (q.1, max q.2 p.2 + 1)
        | none => none
      else none
    | none => none
  else none
def fromsGo : List (Nat × Nat) → List Nod → Option (List (Nat × Nat))
  | acc, [] => some acc
  | acc, o :: l => match nodS acc o with
    | some p => fromsGo (acc ++ [p]) l
    | none => none
def fromsS (l : List Nod) : Option (List (Nat × Nat)) := fromsGo [] l
def fmlOk (l : List Nod) : Bool := decide (1 ≤ l.length ∧ l.length ≤ 40) && match fromsS l with
  | some acc => match acc.getLast? with
    | some p => decide (p.1 = 0 ∧ p.2 ≤ 12)
    | none => false
  | none => false
/-- a formula as a tree -/
inductive FT where
  | at_ (a : Atm)
  | one (k : Int) (t : FT)
  | two (k : Int) (s t : FT)
namespace FT
def size : FT → Nat
  | .at_ _ => 1
  | .one _ t => t.size + 1
  | .two _ s t => s.size + t.size + 1
def deep : FT → Nat
  | .at_ _ => 1
  | .one _ t => t.deep + 1
  | .two _ s t => max s.deep t.deep + 1
def ok : FT → Bool
  | .at_ a => atomOk a
  | .one k t => decide (armsN k = 1) && t.ok
  | .two k s t => decide (armsN k = 2) && (s.ok && t.ok)
def nodes : FT → Nat → List Nod
  | .at_ a, _ => [⟨1, a, 0, 0⟩]
  | .one k t, n => t.nodes n ++ [⟨k, zeroA, (n + t.size : Nat) - 1, 0⟩]
  | .two k s t, n => s.nodes n ++ t.nodes (n + s.size) ++ [⟨k, zeroA, (n + s.size : Nat) - 1, (n + s.size + t.size : Nat) - 1⟩]
def acc : FT → Nat → List (Nat × Nat)
  | .at_ _, n => [(n, 1)]
  | .one k t, n => t.acc n ++ [(n, (one k t).deep)]
  | .two k s t, n => s.acc n ++ t.acc (n + s.size) ++ [(n, (two k s t).deep)]
theorem size_pos : ∀ T : FT, 1 ≤ T.size
  | .at_ _ => Nat.le_refl _
  | .one _ _ => Nat.le_add_left _ _
  | .two _ _ _ => Nat.le_add_left _ _
theorem nodes_len : ∀ (T : FT) (n : Nat), (T.nodes n).length = T.size
  | .at_ _, _ => rfl
  | .one _ t, n => by simp [nodes, size, nodes_len t]
  | .two _ s t, n => by simp [nodes, size, nodes_len s, nodes_len t]; omega
theorem acc_len : ∀ (T : FT) (n : Nat), (T.acc n).length = T.size
  | .at_ _, _ => rfl
  | .one _ t, n => by simp [acc, size, acc_len t]
  | .two _ s t, n => by simp [acc, size, acc_len s, acc_len t]; omega
theorem acc_last (T : FT) (n : Nat) : ∃ l, T.acc n = l ++ [(n, T.deep)] := by
  cases T with
  | at_ a => exact ⟨[], rfl⟩
  | one k t => exact ⟨_, rfl⟩
  | two k s t => exact ⟨_, rfl⟩
theorem acc_deep : ∀ (T : FT) (n : Nat), ∀ p ∈ T.acc n, p.2 ≤ T.deep ∧ n ≤ p.1
  | .at_ _, n, p, h => by simp [acc] at h; subst h; exact ⟨Nat.le_refl _, Nat.le_refl _⟩
  | .one k t, n, p, h => by
    rcases List.mem_append.1 h with h | h
    · have := acc_deep t n p h; simp only [deep]; omega
    · simp at h; subst h; exact ⟨Nat.le_refl _, Nat.le_refl _⟩
  | .two k s t, n, p, h => by
    rcases List.mem_append.1 h with h | h
    · rcases List.mem_append.1 h with h | h
      · have := acc_deep s n p h; simp only [deep]; omega
      · have := acc_deep t _ p h; simp only [deep]; omega
    · simp at h; subst h; exact ⟨Nat.le_refl _, Nat.le_refl _⟩
end FT
theorem fromsGo_app : ∀ (l m : List Nod) (acc : List (Nat × Nat)), fromsGo acc (l ++ m) = (fromsGo acc l).bind fun a => fromsGo a m
  | [], m, acc => rfl
  | o :: l, m, acc => by
    simp only [List.cons_append, fromsGo]
    cases nodS acc o with
    | none => rfl
    | some p => exact fromsGo_app l m _
theorem arms_cases (k : Int) : armsN k = 0 ∧ k = 1 ∨ armsN k = 1 ∧ (k = 2 ∨ k = 5 ∨ k = 6 ∨ k = 7) ∨ armsN k = 2 ∧ (k = 3 ∨ k = 4 ∨ k = 8) ∨ armsN k = -1 ∧ (k < 1 ∨ 8 < k) := by
  unfold armsN; split
  · exact .inl ⟨rfl, by assumption⟩
  · split
    · exact .inr (.inl ⟨rfl, by assumption⟩)
    · split
      · exact .inr (.inr (.inl ⟨rfl, by assumption⟩))
      · exact .inr (.inr (.inr ⟨rfl, by omega⟩))
theorem FT.froms : ∀ {T : FT}, T.ok = true → ∀ (acc : List (Nat × Nat)), fromsGo acc (T.nodes acc.length) = some (acc ++ T.acc acc.length)
  | .at_ a, h, acc => by
    simp only [nodes, fromsGo, nodS]
    rw [if_pos (by decide), if_pos ⟨trivial, trivial, h⟩]
    rfl
  | .one k t, h, acc => by
    simp only [ok, Bool.and_eq_true, decide_eq_true_eq] at h
    obtain ⟨l, hl⟩ := t.acc_last acc.length
    simp only [nodes, fromsGo_app, FT.froms h.2, Option.bind_some, fromsGo, nodS]
    have e : (acc ++ t.acc acc.length).getLast? = some (acc.length, t.deep) := by rw [hl, ← List.append_assoc, List.getLast?_concat]
    rw [if_neg (by omega), if_pos h.1, e]
    dsimp only
    rw [if_pos ⟨by rw [List.length_append, acc_len], trivial, trivial⟩]
    simp only [FT.acc, FT.deep, List.append_assoc]
  | .two k s t, h, acc => by
    simp only [ok, Bool.and_eq_true, decide_eq_true_eq] at h
    obtain ⟨h1, h2, h3⟩ := h
    have el : (acc ++ s.acc acc.length).length = acc.length + s.size := by rw [List.length_append, acc_len]
    have ht := FT.froms h3 (acc ++ s.acc acc.length)
    rw [el] at ht
    obtain ⟨l, hl⟩ := t.acc_last (acc.length + s.size)
    obtain ⟨m, hm⟩ := s.acc_last acc.length
    simp only [nodes, fromsGo_app, FT.froms h2, Option.bind_some, ht, fromsGo, nodS]
    have e : (acc ++ s.acc acc.length ++ t.acc (acc.length + s.size)).getLast? = some (acc.length + s.size, t.deep) := by rw [hl, ← List.append_assoc, List.getLast?_concat]
    have hsp := s.size_pos
    have hms : m.length + 1 = s.size := by rw [← acc_len s acc.length, hm]; simp
    have e2 : (acc ++ s.acc acc.length ++ t.acc (acc.length + s.size))[acc.length + s.size - 1]? = some (acc.length, s.deep) := by
      rw [List.getElem?_append_left (by rw [el]; omega), hm, ← List.append_assoc]
      rw [show acc.length + s.size - 1 = (acc ++ m).length by rw [List.length_append]; omega]
      exact List.getElem?_concat_length
    rw [if_neg (by omega), if_neg (by omega), if_pos h1, e]
    dsimp only
    rw [if_pos ⟨by rw [List.length_append, el, acc_len], by omega, by simp, trivial⟩, e2]
    simp only [FT.acc, FT.deep, List.append_assoc]
/-- forests -/
def fNodes : Nat → List FT → List Nod
  | _, [] => []
  | n, T :: r => T.nodes n ++ fNodes (n + T.size) r
def fAcc : Nat → List FT → List (Nat × Nat)
  | _, [] => []
  | n, T :: r => T.acc n ++ fAcc (n + T.size) r
def fSize : List FT → Nat
  | [] => 0
  | T :: r => T.size + fSize r
theorem fNodes_app : ∀ (F H : List FT) (n : Nat), fNodes n (F ++ H) = fNodes n F ++ fNodes (n + fSize F) H
  | [], H, n => by simp [fNodes, fSize]
  | T :: F, H, n => by simp only [List.cons_append, fNodes, fNodes_app F H, fSize, List.append_assoc, Nat.add_assoc]
theorem fAcc_app : ∀ (F H : List FT) (n : Nat), fAcc n (F ++ H) = fAcc n F ++ fAcc (n + fSize F) H
  | [], H, n => by simp [fAcc, fSize]
  | T :: F, H, n => by simp only [List.cons_append, fAcc, fAcc_app F H, fSize, List.append_assoc, Nat.add_assoc]
theorem fAcc_len : ∀ (F : List FT) (n : Nat), (fAcc n F).length = fSize F
  | [], n => rfl
  | T :: F, n => by simp only [fAcc, List.length_append, FT.acc_len, fAcc_len F, fSize]
theorem fNodes_len : ∀ (F : List FT) (n : Nat), (fNodes n F).length = fSize F
  | [], n => rfl
  | T :: F, n => by simp only [fNodes, List.length_append, FT.nodes_len, fNodes_len F, fSize]
theorem fSize_app (F H : List FT) : fSize (F ++ H) = fSize F + fSize H := by
  rw [← fNodes_len (F ++ H) 0, fNodes_app, List.length_append, fNodes_len, fNodes_len]
theorem last_cases {α : Type} (l : List α) : l = [] ∨ ∃ m x, l = m ++ [x] := by
  rcases List.eq_nil_or_concat l with h | ⟨m, x, h⟩
  · exact .inl h
  · exact .inr ⟨m, x, by rw [h]; simp⟩
theorem nod_forest {F : List FT} (hF : ∀ T ∈ F, T.ok = true) {o : Nod} {p : Nat × Nat} (h : nodS (fAcc 0 F) o = some p) :
    ∃ H : List FT, (∀ T ∈ H, T.ok = true) ∧ fNodes 0 H = fNodes 0 F ++ [o] ∧ fAcc 0 H = fAcc 0 F ++ [p] := by
  unfold nodS at h
  have hlast : ∀ {F' : List FT} {T : FT}, (fAcc 0 (F' ++ [T])).getLast? = some (fSize F', T.deep) := by
    intro F' T
    obtain ⟨l, hl⟩ := T.acc_last (0 + fSize F')
    rw [fAcc_app, show fAcc (0 + fSize F') [T] = T.acc (0 + fSize F') by simp [fAcc], hl, ← List.append_assoc, List.getLast?_concat, Nat.zero_add]
  obtain ⟨k, a, x, y⟩ := o
  rcases arms_cases k with ⟨ha, hk⟩ | ⟨ha, hk⟩ | ⟨ha, hk⟩ | ⟨ha, hk⟩
  · rw [if_pos ha] at h
    split at h
    · rename_i hc
      obtain ⟨rfl, rfl, hc⟩ := hc
      cases h
      subst hk
      refine ⟨F ++ [.at_ a], fun T hT => ?_, ?_, ?_⟩
      · rcases List.mem_append.1 hT with hT | hT
        · exact hF T hT
        · simp at hT; subst hT; exact hc
      · rw [fNodes_app]; rfl
      · rw [fAcc_app, fAcc_len]; simp [fAcc, FT.acc]
    · cases h
  · rw [if_neg (by dsimp only; omega), if_pos ha] at h
    rcases last_cases F with rfl | ⟨F', T, rfl⟩
    · simp [fAcc] at h
    · rw [hlast] at h
      dsimp only at h
      split at h
      · rename_i hc
        obtain ⟨hx, rfl, rfl⟩ := hc
        cases h
        rw [fAcc_len, fSize_app] at hx
        simp only [fSize] at hx
        refine ⟨F' ++ [.one k T], fun S hS => ?_, ?_, ?_⟩
        · rcases List.mem_append.1 hS with hS | hS
          · exact hF S (List.mem_append_left _ hS)
          · simp at hS; subst hS
            simp [FT.ok, ha, hF T (by simp)]
        · rw [fNodes_app, fNodes_app]
          simp only [fNodes, FT.nodes, List.append_nil, List.append_assoc, Nat.zero_add]
          congr 3
          simp only [Nod.mk.injEq, true_and, and_true, List.cons.injEq]
          omega
        · rw [fAcc_app, fAcc_app]
          simp only [fAcc, FT.acc, List.append_nil, List.append_assoc, Nat.zero_add, FT.deep]
      · cases h
  · rw [if_neg (by dsimp only; omega), if_neg (by dsimp only; omega), if_pos ha] at h
    rcases last_cases F with rfl | ⟨F', T, rfl⟩
    · simp [fAcc] at h
    · rw [hlast] at h
      dsimp only at h
      split at h
      · rename_i hc
        obtain ⟨hy, h1, hx, rfl⟩ := hc
        rcases last_cases F' with rfl | ⟨F'', S, rfl⟩
        · simp [fSize] at h1
        · have hss := S.size_pos
          have e2 : (fAcc 0 (F'' ++ [S] ++ [T]))[fSize (F'' ++ [S]) - 1]? = some (fSize F'', S.deep) := by
            obtain ⟨l, hl⟩ := S.acc_last (0 + fSize F'')
            rw [fAcc_app, List.getElem?_append_left (by rw [fAcc_len]; omega), fAcc_app, show fAcc (0 + fSize F'') [S] = S.acc (0 + fSize F'') by simp [fAcc], hl, ← List.append_assoc]
            have : fSize (F'' ++ [S]) - 1 = (fAcc 0 F'' ++ l).length := by
              have h2 : l.length + 1 = S.size := by rw [← FT.acc_len S (0 + fSize F''), hl]; simp
              rw [List.length_append, fAcc_len, fSize_app]; simp only [fSize]; omega
            rw [this, Nat.zero_add]
            exact List.getElem?_concat_length
          rw [e2] at h
          cases h
          rw [fAcc_len, fSize_app, fSize_app] at hy
          rw [fSize_app] at hx
          simp only [fSize] at hx hy
          refine ⟨F'' ++ [.two k S T], fun U hU => ?_, ?_, ?_⟩
          · rcases List.mem_append.1 hU with hU | hU
            · exact hF U (by simp [hU])
            · simp at hU; subst hU
              simp [FT.ok, ha, hF T (by simp), hF S (by simp)]
          · rw [fNodes_app, fNodes_app, fNodes_app]
            simp only [fNodes, FT.nodes, List.append_nil, List.append_assoc, Nat.zero_add, fSize_app, fSize]
            congr 4
            simp only [Nod.mk.injEq, true_and, List.cons.injEq, and_true]
            constructor <;> omega
          · rw [fAcc_app, fAcc_app, fAcc_app]
            simp only [fAcc, FT.acc, List.append_nil, List.append_assoc, Nat.zero_add, FT.deep, fSize_app, fSize, Nat.add_zero]
      · cases h
  · rw [if_neg (by dsimp only; omega), if_neg (by dsimp only; omega), if_neg (by dsimp only; omega)] at h
    cases h
theorem of_fromsGo : ∀ (l : List Nod) (F : List FT), (∀ T ∈ F, T.ok = true) → ∀ acc, fromsGo (fAcc 0 F) l = some acc → ∃ H : List FT, (∀ T ∈ H, T.ok = true) ∧ fNodes 0 H = fNodes 0 F ++ l ∧ acc = fAcc 0 H
  | [], F, hF, acc, h => by simp only [fromsGo, Option.some.injEq] at h; exact ⟨F, hF, by simp, h.symm⟩
  | o :: l, F, hF, acc, h => by
    simp only [fromsGo] at h
    split at h
    · rename_i p hp
      obtain ⟨H, h1, h2, h3⟩ := nod_forest hF hp
      rw [← h3] at h
      obtain ⟨J, j1, j2, j3⟩ := of_fromsGo l H h1 acc h
      exact ⟨J, j1, by rw [j2, h2]; simp, j3⟩
    · cases h
theorem of_froms {l : List Nod} {acc : List (Nat × Nat)} (h : fromsS l = some acc) : ∃ F : List FT, (∀ T ∈ F, T.ok = true) ∧ l = fNodes 0 F ∧ acc = fAcc 0 F := by
  obtain ⟨H, h1, h2, h3⟩ := of_fromsGo l [] (by simp) acc h
  exact ⟨H, h1, by rw [h2]; rfl, h3⟩
/-- a right formula is a tree -/
theorem fml_tree {l : List Nod} (h : fmlOk l = true) : ∃ T : FT, T.ok = true ∧ l = T.nodes 0 ∧ T.size ≤ 40 ∧ T.deep ≤ 12 := by
  unfold fmlOk at h
  simp only [Bool.and_eq_true, decide_eq_true_eq] at h
  obtain ⟨hl, h⟩ := h
  split at h
  · rename_i acc ha
    obtain ⟨F, h1, h2, h3⟩ := of_froms ha
    rcases last_cases F with rfl | ⟨F', T, rfl⟩
    · rw [h3] at h; simp [fAcc] at h
    · obtain ⟨m, hm⟩ := T.acc_last (0 + fSize F')
      have e : acc.getLast? = some (fSize F', T.deep) := by
        rw [h3, fAcc_app, show fAcc (0 + fSize F') [T] = T.acc (0 + fSize F') by simp [fAcc], hm, ← List.append_assoc, List.getLast?_concat, Nat.zero_add]
      rw [e] at h
      simp only [decide_eq_true_eq] at h
      have hF : F' = [] := by
        cases F' with
        | nil => rfl
        | cons S r => have := S.size_pos; simp only [fSize] at h; omega
      subst hF
      have e2 : l = T.nodes 0 := by rw [h2]; simp [fNodes]
      refine ⟨T, h1 T (by simp), e2, ?_, h.2⟩
      rw [← T.nodes_len 0, ← e2]; exact hl.2
  · cases h
theorem tree_fml {T : FT} (h : T.ok = true) (hs : T.size ≤ 40) (hd : T.deep ≤ 12) : fmlOk (T.nodes 0) = true := by
  unfold fmlOk fromsS
  have h1 := FT.froms h []
  obtain ⟨m, hm⟩ := T.acc_last 0
  simp only [List.length_nil, List.nil_append] at h1
  rw [h1, hm]
  dsimp only
  rw [List.getLast?_concat, T.nodes_len]
  have := T.size_pos
  simp [hd, hs]; omega
end Go.PV
namespace Go.PV
open Go
/-! formulas: their text; the program's reader of them -/
def onesL : List (Int × Bs) := [(2, [110, 111, 116]), (5, [98, 101, 102, 111, 114, 101]), (6, [111, 110, 99, 101]), (7, [97, 108, 119, 97, 121, 115])]
def twosL : List (Int × Bs) := [(3, [97, 110, 100]), (4, [111, 114]), (8, [115, 105, 110, 99, 101])]
def wordT (k : Int) : Bs := if k = 2 then [110, 111, 116] else if k = 3 then [97, 110, 100] else if k = 4 then [111, 114] else if k = 5 then [98, 101, 102, 111, 114, 101] else if k = 6 then [111, 110, 99, 101] else if k = 7 then [97, 108, 119, 97, 121, 115] else if k = 8 then [115, 105, 110, 99, 101] else []
namespace FT
def txt : FT → Bs
  | .at_ a => atomT a
  | .one k t => wordT k ++ [32] ++ t.txt
  | .two k s t => [40] ++ s.txt ++ [32] ++ wordT k ++ [32] ++ t.txt ++ [41]
def txts : FT → List Bs
  | .at_ a => [atomT a]
  | .one k t => t.txts ++ [(one k t).txt]
  | .two k s t => s.txts ++ t.txts ++ [(two k s t).txt]
def toks : Bs → FT → List (Bs × KT)
  | b, .at_ a => atomK b a
  | b, .one k t => (b, (1, wordT k)) :: t.toks [32]
  | b, .two k s t => (b, (5, [40])) :: (s.toks [] ++ ([32], (1, wordT k)) :: (t.toks [32] ++ [([], (5, [41]))]))
theorem txts_len : ∀ T : FT, T.txts.length = T.size
  | .at_ _ => rfl
  | .one _ t => by simp [txts, size, txts_len t]
  | .two _ s t => by simp [txts, size, txts_len s, txts_len t]; omega
theorem txts_last (T : FT) : ∃ l, T.txts = l ++ [T.txt] := by
  cases T with
  | at_ a => exact ⟨[], rfl⟩
  | one k t => exact ⟨_, rfl⟩
  | two k s t => exact ⟨_, rfl⟩
theorem weave_toks : ∀ (T : FT) (b : Bs), weaveK (T.toks b) = b ++ T.txt
  | .at_ a, b => by
    show b ++ (a.n ++ weaveK (argsK a.a)) = b ++ weaveK (atomK [] a)
    simp [atomK, weaveK]
  | .one k t, b => by simp [toks, weaveK, weave_toks t, txt]
  | .two k s t, b => by simp [toks, weaveK, weaveK_app, weave_toks s, weave_toks t, txt]
end FT
/-- a node's text, from those of the ones ahead -/
def nodT (acc : List Bs) (o : Nod) : Bs :=
  if armsN o.k = 0 then atomT o.a else if armsN o.k = 1 then wordT o.k ++ [32] ++ acc.getD o.x.toNat [] else [40] ++ acc.getD o.x.toNat [] ++ [32] ++ wordT o.k ++ [32] ++ acc.getD o.y.toNat [] ++ [41]
def txGo : List Bs → List Nod → List Bs
  | acc, [] => acc
  | acc, o :: l => txGo (acc ++ [nodT acc o]) l
def fmlT (l : List Nod) : Bs := (txGo [] l).getLastD []
theorem txGo_app : ∀ (l m : List Nod) (acc : List Bs), txGo acc (l ++ m) = txGo (txGo acc l) m
  | [], m, acc => rfl
  | o :: l, m, acc => by simp only [List.cons_append, txGo]; exact txGo_app l m _
theorem getD_last (l m : List Bs) (x : Bs) (n : Nat) (h : n = l.length) : (l ++ x :: m).getD n [] = x := by
  subst h; simp [List.getD_eq_getElem?_getD]
theorem FT.tx : ∀ {T : FT}, T.ok = true → ∀ (acc : List Bs), txGo acc (T.nodes acc.length) = acc ++ T.txts
  | .at_ a, h, acc => rfl
  | .one k t, h, acc => by
    simp only [ok, Bool.and_eq_true, decide_eq_true_eq] at h
    obtain ⟨l, hl⟩ := t.txts_last
    have hlen := t.txts_len
    rw [hl, List.length_append, List.length_cons, List.length_nil] at hlen
    simp only [nodes, txGo_app, FT.tx h.2, txGo, nodT]
    rw [if_neg (by omega), if_pos h.1, hl]
    have e : (acc ++ (l ++ [t.txt])).getD ((acc.length + t.size : Nat) - 1 : Int).toNat [] = t.txt := by
      rw [← List.append_assoc]
      exact getD_last _ _ _ _ (by rw [List.length_append]; omega)
    rw [e]
    simp only [FT.txts, FT.txt, hl, List.append_assoc]
  | .two k s t, h, acc => by
    simp only [ok, Bool.and_eq_true, decide_eq_true_eq] at h
    obtain ⟨h1, h2, h3⟩ := h
    have el : (acc ++ s.txts).length = acc.length + s.size := by rw [List.length_append, txts_len]
    have ht := FT.tx h3 (acc ++ s.txts)
    rw [el] at ht
    obtain ⟨l, hl⟩ := t.txts_last
    obtain ⟨m, hm⟩ := s.txts_last
    have hll := t.txts_len
    have hml := s.txts_len
    rw [hl, List.length_append, List.length_cons, List.length_nil] at hll
    rw [hm, List.length_append, List.length_cons, List.length_nil] at hml
    simp only [nodes, txGo_app, FT.tx h2, ht, txGo, nodT]
    rw [if_neg (by omega), if_neg (by omega)]
    have e1 : (acc ++ s.txts ++ t.txts).getD ((acc.length + s.size : Nat) - 1 : Int).toNat [] = s.txt := by
      rw [hm, show acc ++ (m ++ [s.txt]) ++ t.txts = (acc ++ m) ++ s.txt :: t.txts by simp]
      exact getD_last _ _ _ _ (by rw [List.length_append]; omega)
    have e2 : (acc ++ s.txts ++ t.txts).getD ((acc.length + s.size + t.size : Nat) - 1 : Int).toNat [] = t.txt := by
      rw [hl, ← List.append_assoc]
      exact getD_last _ _ _ _ (by rw [List.length_append, el]; omega)
    rw [e1, e2]
    simp only [FT.txts, FT.txt, List.append_assoc]
theorem fmlT_tree {T : FT} (h : T.ok = true) : fmlT (T.nodes 0) = T.txt := by
  obtain ⟨l, hl⟩ := T.txts_last
  unfold fmlT
  have := FT.tx h []
  simp only [List.length_nil, List.nil_append] at this
  rw [this, hl]; simp
/-! the machine -/
abbrev Frm := Int × Int
namespace Rd
def wordsR : List (Int × Bs) → Rd → Int × Rd
  | [], r => (0, r)
  | (k, s) :: l, r => if r.see 1 s then (k, r.step) else wordsR l r
def beg : Nat → Rd → List Frm → List Frm × Rd
  | 0, r, st => (st, r)
  | f + 1, r, st => if (wordsR onesL r).1 = 0 then (if r.see 5 [40] then beg f r.step ((0, 0) :: st) else (st, r)) else beg f (wordsR onesL r).2 (((wordsR onesL r).1, 0) :: st)
def clo : List Frm → List Nod → Rd → Bool × List Frm × List Nod × Rd
  | [], l, r => (true, [], l, r)
  | (k, a) :: st, l, r => if r.isOpen then
      if armsN k = 1 then clo st (l ++ [⟨k, zeroA, (l.length : Int) - 1, 0⟩]) r
      else if armsN k = 2 then clo st (l ++ [⟨k, zeroA, a, (l.length : Int) - 1⟩]) (r.want 5 [41])
      else if (wordsR twosL r).1 = 0 then (true, (k, a) :: st, l, r.fail)
      else (false, ((wordsR twosL r).1, (l.length : Int) - 1) :: st, l, (wordsR twosL r).2)
    else (true, (k, a) :: st, l, r)
def forG : Nat → Rd → List Frm → List Nod → List Frm × List Nod × Rd
  | 0, r, st, l => (st, l, r)
  | f + 1, r, st, l => if r.isOpen then
      let b := beg (r.l.length + 1) r st
      let x := b.2.atom
      let c := clo b.1 (l ++ [⟨1, x.1, 0, 0⟩]) x.2
      if c.1 then (c.2.1, c.2.2.1, c.2.2.2) else forG f c.2.2.2 c.2.1 c.2.2.1
    else (st, l, r)
def formula (r : Rd) : List Frm × List Nod × Rd := forG (r.l.length + 1) r [] []
theorem wordsR_l : ∀ (L : List (Int × Bs)) (r : Rd), (wordsR L r).2.l = r.l ∧ r.i ≤ (wordsR L r).2.i
  | [], r => ⟨rfl, Nat.le_refl _⟩
  | (k, s) :: L, r => by
    unfold wordsR
    split
    · exact ⟨rfl, Nat.le_succ _⟩
    · exact wordsR_l L r
theorem wordsR_0 : ∀ {L : List (Int × Bs)} {r : Rd}, (∀ p ∈ L, p.1 ≠ 0) → (wordsR L r).1 = 0 → (wordsR L r).2 = r
  | [], r, _, _ => rfl
  | (k, s) :: L, r, hL, h => by
    unfold wordsR at *
    split
    · rename_i hs
      rw [if_pos hs] at h
      exact absurd h (hL (k, s) (by simp))
    · rename_i hs
      rw [if_neg hs] at h
      exact wordsR_0 (fun p hp => hL p (by simp [hp])) h
theorem wordsR_ne : ∀ {L : List (Int × Bs)} {r : Rd}, (wordsR L r).1 ≠ 0 → (wordsR L r).2 = r.step ∧ r.isOpen = true ∧ r.i < r.l.length ∧ ∃ p ∈ L, p.1 = (wordsR L r).1
  | [], r, h => absurd rfl h
  | (k, s) :: L, r, h => by
    unfold wordsR at *
    split
    · rename_i hs
      exact ⟨rfl, (see_open hs).1, cur_lt (see_open hs).2, (k, s), by simp, rfl⟩
    · rename_i hs
      rw [if_neg hs] at h
      obtain ⟨a, b, c, p, d, e⟩ := wordsR_ne h
      exact ⟨a, b, c, p, by simp [d], e⟩
theorem ones_ne : ∀ p ∈ onesL, p.1 ≠ 0 := by decide
theorem twos_ne : ∀ p ∈ twosL, p.1 ≠ 0 := by decide
theorem beg_l : ∀ (f : Nat) (r : Rd) (st : List Frm), (beg f r st).2.l = r.l ∧ r.i ≤ (beg f r st).2.i
  | 0, r, st => ⟨rfl, Nat.le_refl _⟩
  | f + 1, r, st => by
    unfold beg
    split
    · split
      · have h := beg_l f r.step ((0, 0) :: st)
        exact ⟨h.1, Nat.le_of_succ_le h.2⟩
      · exact ⟨rfl, Nat.le_refl _⟩
    · have h1 := wordsR_l onesL r
      have h := beg_l f (wordsR onesL r).2 (((wordsR onesL r).1, 0) :: st)
      exact ⟨h.1.trans h1.1, Nat.le_trans h1.2 h.2⟩
theorem clo_l : ∀ (st : List Frm) (l : List Nod) (r : Rd), (clo st l r).2.2.2.l = r.l ∧ r.i ≤ (clo st l r).2.2.2.i
  | [], l, r => ⟨rfl, Nat.le_refl _⟩
  | (k, a) :: st, l, r => by
    unfold clo
    split
    · split
      · exact clo_l st _ r
      · split
        · have h := want_l r 5 [41]
          have h2 := clo_l st (l ++ [⟨k, zeroA, a, (l.length : Int) - 1⟩]) (r.want 5 [41])
          exact ⟨h2.1.trans h.1, Nat.le_trans h.2 h2.2⟩
        · split
          · exact ⟨rfl, Nat.le_refl _⟩
          · exact wordsR_l twosL r
    · exact ⟨rfl, Nat.le_refl _⟩
theorem forG_l : ∀ (f : Nat) (r : Rd) (st : List Frm) (l : List Nod), (forG f r st l).2.2.l = r.l ∧ r.i ≤ (forG f r st l).2.2.i
  | 0, r, st, l => ⟨rfl, Nat.le_refl _⟩
  | f + 1, r, st, l => by
    unfold forG
    split
    · have h1 := beg_l (r.l.length + 1) r st
      have h2 := atom_l (beg (r.l.length + 1) r st).2
      have h3 := clo_l (beg (r.l.length + 1) r st).1 (l ++ [⟨1, (beg (r.l.length + 1) r st).2.atom.1, 0, 0⟩]) (beg (r.l.length + 1) r st).2.atom.2
      dsimp only
      generalize clo (beg (r.l.length + 1) r st).1 (l ++ [⟨1, (beg (r.l.length + 1) r st).2.atom.1, 0, 0⟩]) (beg (r.l.length + 1) r st).2.atom.2 = c at *
      split
      · exact ⟨by dsimp only; rw [h3.1, h2.1, h1.1], by dsimp only; omega⟩
      · have h4 := forG_l f c.2.2.2 c.2.1 c.2.2.1
        exact ⟨by rw [h4.1, h3.1, h2.1, h1.1], by omega⟩
    · exact ⟨rfl, Nat.le_refl _⟩
theorem formula_l (r : Rd) : r.formula.2.2.l = r.l ∧ r.i ≤ r.formula.2.2.i := forG_l _ _ _ _
end Rd
end Go.PV
namespace Go.PV
open Go
/-! what is written of a formula is read -/
theorem word_tk {k : Int} (h : armsN k = 1 ∨ armsN k = 2) : Tk (1, wordT k) := by
  rcases arms_cases k with ⟨a, b⟩ | ⟨a, rfl | rfl | rfl | rfl⟩ | ⟨a, rfl | rfl | rfl⟩ | ⟨a, b⟩
  · omega
  all_goals first | (unfold Tk; decide +kernel) | omega
theorem adv_rest {q : Rd} {a c : List KT} (e : q.rest = a ++ c) : (q.adv a.length).rest = c := by
  unfold Rd.rest at e ⊢
  unfold Rd.adv
  dsimp only
  rw [← List.drop_drop, List.map_drop, e, List.drop_left]
namespace FT
theorem txt_head : ∀ {T : FT}, T.ok = true → ∃ c r, T.txt = c :: r ∧ c.toNat ≠ 61 ∧ c.toNat ≠ 62
  | .at_ a, h => by
    have h : atomOk a = true := h
    unfold atomOk at h
    rw [Bool.and_eq_true, Bool.and_eq_true] at h
    obtain ⟨c, r, e, h1, h2⟩ := tk_head (tk_word (large := false) (nameS_word h.1.1)) (by simp)
    have e : a.n = c :: r := e
    exact ⟨c, r ++ weaveK (argsK a.a), by show [] ++ (a.n ++ weaveK (argsK a.a)) = _; rw [e]; rfl, h1, h2⟩
  | .one k t, h => by
    simp only [ok, Bool.and_eq_true, decide_eq_true_eq] at h
    obtain ⟨c, r, e, h1, h2⟩ := tk_head (word_tk (.inl h.1)) (by simp)
    have e : wordT k = c :: r := e
    exact ⟨c, r ++ [32] ++ t.txt, by rw [txt, e]; rfl, h1, h2⟩
  | .two k s t, h => ⟨40, _, by simp only [txt]; rfl, by decide, by decide⟩
theorem wov : ∀ {T : FT}, T.ok = true → ∀ (b tail : Bs), blk b = true → stopH tail = true → WovK tail (T.toks b)
  | .at_ a, h, b, tail, hb, ht => wov_atom ht hb h
  | .one k t, h, b, tail, hb, ht => by
    simp only [ok, Bool.and_eq_true, decide_eq_true_eq] at h
    refine ⟨hb, word_tk (.inl h.1), ?_, wov h.2 [32] tail rfl ht⟩
    rw [weave_toks]; exact okEnd_stop rfl
  | .two k s t, h, b, tail, hb, ht => by
    simp only [ok, Bool.and_eq_true, decide_eq_true_eq] at h
    obtain ⟨h1, h2, h3⟩ := h
    refine ⟨hb, rfl, ?_, WovK.app (wov h2 [] _ rfl rfl) ⟨rfl, word_tk (.inr h1), ?_, WovK.app (wov h3 [32] _ rfl rfl) ⟨rfl, rfl, okEnd_stop ht, trivial⟩⟩⟩
    · rw [weaveK_app, weave_toks, List.nil_append, List.append_assoc]
      obtain ⟨c, r, e, h1, h2⟩ := txt_head h2
      rw [e]; exact okEnd_sign (by decide) ⟨h1, h2⟩
    · rw [weaveK_app, weave_toks]; exact okEnd_stop rfl
def ats : FT → Nat
  | .at_ _ => 1
  | .one _ t => t.ats
  | .two _ s t => s.ats + t.ats
theorem ats_pos : ∀ T : FT, 1 ≤ T.ats
  | .at_ _ => Nat.le_refl _
  | .one _ x => x.ats_pos
  | .two _ s t => Nat.le_trans s.ats_pos (Nat.le_add_right _ _)
theorem size_toks : ∀ (T : FT) (b : Bs), T.size ≤ (T.toks b).length ∧ T.ats ≤ T.size
  | .at_ a, b => ⟨by simp [size, toks, atomK], Nat.le_refl _⟩
  | .one k t, b => by
    have := size_toks t [32]
    simp only [size, toks, ats, List.length_cons]; omega
  | .two k s t, b => by
    have := size_toks s []
    have := size_toks t [32]
    simp only [size, toks, ats, List.length_cons, List.length_append, List.length_nil]; omega
end FT
namespace Rd
/-- behind an operand -/
def contG (f : Nat) (st : List Frm) (l : List Nod) (r : Rd) : List Frm × List Nod × Rd :=
  if (clo st l r).1 then ((clo st l r).2.1, (clo st l r).2.2.1, (clo st l r).2.2.2) else forG f (clo st l r).2.2.2 (clo st l r).2.1 (clo st l r).2.2.1
def startG (fb f : Nat) (r : Rd) (st : List Frm) (l : List Nod) : List Frm × List Nod × Rd :=
  contG f (beg fb r st).1 (l ++ [⟨1, (beg fb r st).2.atom.1, 0, 0⟩]) (beg fb r st).2.atom.2
theorem forG_start {r : Rd} (ho : r.isOpen = true) (f : Nat) (st : List Frm) (l : List Nod) : forG (f + 1) r st l = startG (r.l.length + 1) f r st l := by
  rw [forG, if_pos ho]; rfl
theorem wordsR_no : ∀ {L : List (Int × Bs)} {r : Rd}, (∀ p ∈ L, r.rest.head? ≠ some (1, p.2)) → wordsR L r = (0, r)
  | [], r, _ => rfl
  | (k, s) :: L, r, h => by
    unfold wordsR
    have : r.see 1 s = false := see_no (x := (1, s)) (h (k, s) (by simp))
    rw [if_neg (by rw [this]; simp)]
    exact wordsR_no fun p hp => h p (by simp [hp])
theorem wordsR_yes : ∀ {L : List (Int × Bs)} {r : Rd} {k : Int} {s : Bs} {m : List KT}, r.isOpen = true → r.rest = (1, s) :: m → (k, s) ∈ L → (∀ p ∈ L, p.2 = s → p.1 = k) → wordsR L r = (k, r.step)
  | [], r, k, s, m, _, _, h, _ => by cases h
  | (k', s') :: L, r, k, s, m, ho, hr, h, hu => by
    unfold wordsR
    by_cases e : s' = s
    · subst e
      have : r.see 1 s' = true := see_rest ho hr
      have hk : k' = k := hu (k', s') (by simp) rfl
      rw [if_pos this, hk]
    · have : r.see 1 s' = false := see_no (x := (1, s')) (by rw [hr]; simp; exact fun q => e q.symm)
      rw [if_neg (by rw [this]; simp)]
      refine wordsR_yes ho hr ?_ (fun p hp => hu p (by simp [hp]))
      rcases List.mem_cons.1 h with h | h
      · exact absurd (congrArg Prod.snd h).symm e
      · exact h
theorem one_word {k : Int} (h : armsN k = 1) : (k, wordT k) ∈ onesL ∧ ∀ p ∈ onesL, p.2 = wordT k → p.1 = k := by
  rcases arms_cases k with ⟨a, b⟩ | ⟨a, rfl | rfl | rfl | rfl⟩ | ⟨a, b⟩ | ⟨a, b⟩
  · omega
  · decide
  · decide
  · decide
  · decide
  · omega
  · omega
theorem two_word {k : Int} (h : armsN k = 2) : (k, wordT k) ∈ twosL ∧ ∀ p ∈ twosL, p.2 = wordT k → p.1 = k := by
  rcases arms_cases k with ⟨a, b⟩ | ⟨a, b⟩ | ⟨a, rfl | rfl | rfl⟩ | ⟨a, b⟩
  · omega
  · omega
  · decide
  · decide
  · decide
  · omega
theorem one_ne {k : Int} (h : armsN k = 1) : k ≠ 0 := by rintro rfl; simp [armsN] at h
theorem two_ne {k : Int} (h : armsN k = 2) : k ≠ 0 := by rintro rfl; simp [armsN] at h
theorem name_one {s : Bs} (h : nameS s = true) : ∀ p ∈ onesL, s ≠ p.2 := by
  unfold nameS at h
  simp only [Bool.and_eq_true, Bool.not_eq_true', decide_eq_false_iff_not] at h
  intro p hp e
  refine h.2 ?_
  rw [e]
  have : ∀ p ∈ onesL, p.2 ∈ wordsL := by decide
  exact this p hp
theorem start_rest : ∀ {T : FT}, T.ok = true → ∀ (fb f : Nat) (r : Rd) (b : Bs) (m : List KT) (st : List Frm) (l : List Nod), T.size ≤ fb → (T.toks b).length ≤ r.l.length → T.ats ≤ f + 1 → r.isOpen = true → r.rest = (T.toks b).map (·.2) ++ m → m.head? ≠ some (5, [40]) →
    startG fb f r st l = contG (f + 1 - T.ats) st (l ++ T.nodes l.length) (r.adv (T.toks b).length)
  | .at_ a, h, fb, f, r, b, m, st, l, hfb, hlen, hf, ho, hr, hm => by
    have h : atomOk a = true := h
    have hr : r.rest = (atomK b a).map (·.2) ++ m := hr
    have hat := atom_rest ho h hr (fun _ => hm)
    have hn : nameS a.n = true := by unfold atomOk at h; rw [Bool.and_eq_true, Bool.and_eq_true] at h; exact h.1.1
    have hh : r.rest.head? = some (1, a.n) := by rw [hr]; rfl
    have hb : beg fb r st = (st, r) := by
      cases fb with
      | zero => rfl
      | succ fb =>
        unfold beg
        have hw : wordsR onesL r = (0, r) := wordsR_no fun p hp e => by
          rw [hh] at e
          simp only [Option.some.injEq, Prod.mk.injEq, true_and] at e
          exact name_one hn p hp e
        have hs : r.see 5 [40] = false := see_no (x := (5, [40])) (by rw [hh]; simp)
        rw [hw, if_pos rfl, if_neg (by rw [hs]; simp)]
    unfold startG
    rw [hb, hat]
    rfl
  | .one k t, h, fb, f, r, b, m, st, l, hfb, hlen, hf, ho, hr, hm => by
    simp only [FT.ok, Bool.and_eq_true, decide_eq_true_eq] at h
    obtain ⟨h1, h2⟩ := h
    simp only [FT.size] at hfb
    simp only [FT.toks, List.length_cons] at hlen
    obtain ⟨fb, rfl⟩ : ∃ g, fb = g + 1 := ⟨fb - 1, by omega⟩
    have hr : r.rest = (1, wordT k) :: ((t.toks [32]).map (·.2) ++ m) := hr
    have hr2 := rest_cons hr
    obtain ⟨w1, w2⟩ := one_word h1
    have hw := wordsR_yes ho hr w1 w2
    have hb : startG (fb + 1) f r st l = startG fb f r.step ((k, 0) :: st) l := by
      unfold startG
      rw [beg, hw, if_neg (one_ne h1)]
    have ih := start_rest h2 fb f r.step [32] m ((k, 0) :: st) l (by omega) (by show _ ≤ r.l.length; omega) hf ho hr2.2 hm
    rw [hb, ih]
    unfold contG
    have hc : clo ((k, 0) :: st) (l ++ t.nodes l.length) (r.step.adv (t.toks [32]).length) = clo st (l ++ (FT.one k t).nodes l.length) (r.adv ((FT.one k t).toks b).length) := by
      have ho2 : (r.step.adv (t.toks [32]).length).isOpen = true := ho
      rw [clo, if_pos ho2, if_pos h1]
      have e1 : ((l ++ t.nodes l.length).length : Int) - 1 = (l.length + t.size : Nat) - 1 := by rw [List.length_append, FT.nodes_len]
      have e2 : r.step.adv (t.toks [32]).length = r.adv ((FT.one k t).toks b).length := by
        simp only [FT.toks, List.length_cons, adv, step]; congr 1; omega
      rw [e1, e2]
      simp only [FT.nodes, List.append_assoc]
    rw [hc]
    rfl
  | .two k s t, h, fb, f, r, b, m, st, l, hfb, hlen, hf, ho, hr, hm => by
    simp only [FT.ok, Bool.and_eq_true, decide_eq_true_eq] at h
    obtain ⟨h1, h2, h3⟩ := h
    simp only [FT.size] at hfb
    simp only [FT.ats] at hf
    simp only [FT.toks, List.length_cons, List.length_append, List.length_nil] at hlen
    have hsp := s.ats_pos
    have htp := t.ats_pos
    have hts := t.size_toks [32]
    obtain ⟨fb, rfl⟩ : ∃ g, fb = g + 1 := ⟨fb - 1, by omega⟩
    have hr : r.rest = (5, [40]) :: ((s.toks []).map (·.2) ++ ((1, wordT k) :: ((t.toks [32]).map (·.2) ++ ((5, [41]) :: m)))) := by
      rw [hr]; simp [FT.toks]
    have hr2 := rest_cons hr
    have hw0 : wordsR onesL r = (0, r) := wordsR_no fun p hp e => by rw [hr] at e; simp at e
    have hs0 : r.see 5 [40] = true := see_rest ho hr
    have hb : startG (fb + 1) f r st l = startG fb f r.step ((0, 0) :: st) l := by
      unfold startG
      rw [beg, hw0, if_pos rfl, if_pos hs0]
    have ih := start_rest h2 fb f r.step [] _ ((0, 0) :: st) l (by omega) (by show _ ≤ r.l.length; omega) (by omega) ho hr2.2 (by simp)
    have hr3 := adv_rest hr2.2
    rw [List.length_map] at hr3
    obtain ⟨w1, w2⟩ := two_word h1
    have ho3 : (r.step.adv (s.toks []).length).isOpen = true := ho
    have hw := wordsR_yes ho3 hr3 w1 w2
    have hr4 := (rest_cons hr3).2
    have hcl : clo ((0, 0) :: st) (l ++ s.nodes l.length) (r.step.adv (s.toks []).length) = (false, (k, ((l ++ s.nodes l.length).length : Int) - 1) :: st, l ++ s.nodes l.length, (r.step.adv (s.toks []).length).step) := by
      rw [clo, if_pos ho3, if_neg (by decide), if_neg (by decide), hw, if_neg (two_ne h1)]
    rw [hb, ih]
    unfold contG
    rw [hcl]
    simp only [Bool.false_eq_true, if_false]
    obtain ⟨g, hg⟩ : ∃ g, f + 1 - s.ats = g + 1 := ⟨f - s.ats, by omega⟩
    rw [hg, forG_start (r := (r.step.adv (s.toks []).length).step) ho3]
    have ih2 := start_rest h3 (r.l.length + 1) g (r.step.adv (s.toks []).length).step [32] _ ((k, ((l ++ s.nodes l.length).length : Int) - 1) :: st) (l ++ s.nodes l.length) (by omega) (by show _ ≤ r.l.length; omega) (by omega) ho3 hr4 (by simp)
    have hll : (r.step.adv (s.toks []).length).step.l.length = r.l.length := rfl
    rw [hll, ih2]
    unfold contG
    have hr5 := adv_rest hr4
    rw [List.length_map] at hr5
    have ho5 : ((r.step.adv (s.toks []).length).step.adv (t.toks [32]).length).isOpen = true := ho
    have hw5 := want_rest (x := (5, [41])) ho5 hr5
    have hc : clo ((k, ((l ++ s.nodes l.length).length : Int) - 1) :: st) (l ++ s.nodes l.length ++ t.nodes (l ++ s.nodes l.length).length) ((r.step.adv (s.toks []).length).step.adv (t.toks [32]).length) = clo st (l ++ (FT.two k s t).nodes l.length) (r.adv ((FT.two k s t).toks b).length) := by
      rw [clo, if_pos ho5, if_neg (by omega), if_pos h1]
      have hw5 : ((r.step.adv (s.toks []).length).step.adv (t.toks [32]).length).want 5 [41] = ((r.step.adv (s.toks []).length).step.adv (t.toks [32]).length).step := hw5
      rw [hw5]
      have e2 : ((r.step.adv (s.toks []).length).step.adv (t.toks [32]).length).step = r.adv ((FT.two k s t).toks b).length := by
        simp only [FT.toks, List.length_cons, List.length_append, List.length_nil, adv, step]; congr 1; omega
      have e1 : (l ++ s.nodes l.length).length = l.length + s.size := by rw [List.length_append, FT.nodes_len]
      have e3 : (l ++ s.nodes l.length ++ t.nodes (l.length + s.size)).length = l.length + s.size + t.size := by rw [List.length_append, e1, FT.nodes_len]
      rw [e2, e1, e3]
      simp only [FT.nodes, List.append_assoc]
    rw [hc]
    have e : g + 1 - t.ats = f + 1 - (FT.two k s t).ats := by simp only [FT.ats]; omega
    rw [e]
theorem formula_rest {r : Rd} {T : FT} {b : Bs} {m : List KT} (h : T.ok = true) (ho : r.isOpen = true) (hr : r.rest = (T.toks b).map (·.2) ++ m) (hm : m.head? ≠ some (5, [40])) : r.formula = ([], T.nodes 0, r.adv (T.toks b).length) := by
  have hlen : (T.toks b).length ≤ r.l.length := by
    have := congrArg List.length hr
    unfold rest at this
    simp at this
    omega
  have hs := T.size_toks b
  unfold formula
  rw [forG_start ho, start_rest h (r.l.length + 1) r.l.length r b m [] [] (by omega) hlen (by omega) ho hr hm]
  unfold contG
  rw [clo]
  rfl
end Rd
end Go.PV
namespace Go.PV
open Go
/-- a reader's place is one of the list's; it is not bad and over at once -/
structure Iv (r : Rd) : Prop where
  le : r.i ≤ r.l.length
  nb : r.bad = true → r.over = false
namespace Iv
theorem step {r : Rd} (h : Iv r) (hs : r.i < r.l.length) : Iv r.step := ⟨hs, h.nb⟩
theorem fail {r : Rd} (h : Iv r) (ho : r.isOpen = true) : Iv r.fail := ⟨h.le, fun _ => by
  unfold Rd.isOpen at ho; simp at ho; exact ho.2⟩
theorem wrong {r : Rd} (h : Iv r) (b : Bool) : Iv { r with wrong := b } := ⟨h.le, h.nb⟩
theorem see {r : Rd} (h : Iv r) {k : Int} {t : Bs} (hs : r.see k t = true) : Iv r.step := h.step (Rd.cur_lt (Rd.see_open hs).2)
theorem want {r : Rd} (h : Iv r) (k : Int) (t : Bs) : Iv (r.want k t) := by
  unfold Rd.want
  split
  · rename_i hs; exact h.see hs
  · split
    · rename_i ho; exact h.fail ho
    · exact h
theorem name {r : Rd} (h : Iv r) : Iv r.name.2 := by
  unfold Rd.name
  split
  · rename_i ho
    split
    · rename_i x hx
      split
      · exact h.step (Rd.cur_lt hx)
      · exact h.fail ho
    · exact h.fail ho
  · exact h
theorem num {r : Rd} (h : Iv r) : Iv r.num.2 := by
  unfold Rd.num
  split
  · rename_i ho
    split
    · rename_i x hx
      split
      · exact h.step (Rd.cur_lt hx)
      · exact h.fail ho
    · exact h.fail ho
  · exact h
theorem term {r : Rd} (h : Iv r) : Iv r.term.2 := by
  unfold Rd.term
  split
  · rename_i ho
    split
    · rename_i t hx
      cases hc : r.cur with
      | none => rw [hc] at hx; cases hx
      | some x => exact h.step (Rd.cur_lt hc)
    · exact h.fail ho
  · exact h
theorem args : ∀ (f : Nat) {r : Rd}, Iv r → Iv (Rd.args f r).2
  | 0, _, h => h
  | f + 1, r, h => by
    unfold Rd.args
    split
    · rename_i hs; exact args f (h.see hs).term
    · exact h
theorem atom {r : Rd} (h : Iv r) : Iv r.atom.2 := by
  unfold Rd.atom
  dsimp only
  split
  · rename_i hs
    have hb : Iv r.name.2.brack.2 := ((h.name.see hs).term.args _).want _ _
    dsimp only
    split
    · exact hb.wrong true
    · exact hb
  · exact h.name
theorem reckons {r : Rd} (h : Iv r) : Iv r.reckons.2 := by
  unfold Rd.reckons
  split
  · rename_i hs; exact h.see hs
  · split
    · rename_i hs; exact h.see hs
    · split
      · rename_i hs; exact h.see hs
      · dsimp only
        split
        · rename_i ho; exact h.fail ho
        · exact h
theorem part : ∀ (n : Nat) {r : Rd}, Iv r → Iv (r.part n).2
  | 0, r, h => by
    unfold Rd.part
    split
    · rename_i hs
      have ho := (Rd.see_open hs).1
      refine ⟨(h.see hs).le, fun hb => ?_⟩
      unfold Rd.isOpen at ho
      simp at ho
      have : r.bad = true := hb
      rw [ho.1] at this; cases this
    · exact h.term
  | n + 1, r, h => by
    unfold Rd.part
    split
    · rename_i hs
      have h2 := (part n (h.see hs)).reckons
      dsimp only
      split
      · exact (part n h2).want _ _
      · exact h2
    · exact h.term
theorem expr {r : Rd} (h : Iv r) : Iv r.expr.2 := by
  unfold Rd.expr
  split
  · dsimp only
    split
    · exact (part 15 h).wrong true
    · exact part 15 h
  · exact h
theorem way {r : Rd} (h : Iv r) : Iv r.way.2 := by
  unfold Rd.way
  split
  · rename_i hs; exact h.see hs
  · split
    · rename_i hs; exact h.see hs
    · split
      · rename_i hs; exact h.see hs
      · split
        · rename_i hs; exact h.see hs
        · dsimp only
          split
          · rename_i ho; exact h.fail ho
          · exact h
theorem condR {r : Rd} (h : Iv r) : Iv r.condR.2 := by
  unfold Rd.condR
  split
  · rename_i hs; exact ((h.see hs).expr.way.expr).want _ _
  · split
    · rename_i hs; exact (h.see hs).atom
    · exact h.atom
theorem many {α : Type} {g : Rd → α × Rd} (hg : ∀ {r : Rd}, Iv r → Iv (g r).2) : ∀ (n : Nat) {r : Rd}, Iv r → Iv (Rd.many g n r).2
  | 0, _, h => h
  | n + 1, r, h => by
    unfold Rd.many
    split
    · rename_i hs; exact many hg n (hg (h.see hs))
    · exact h
theorem back {r : Rd} (h : Iv r) (ho : r.isOpen = true) : Iv r.back := ⟨by have := h.le; show r.i - 1 ≤ _; exact Nat.le_trans (Nat.sub_le _ _) this, fun _ => by
  unfold Rd.isOpen at ho; simp at ho; exact ho.2⟩
theorem actR {r : Rd} (h : Iv r) : Iv r.actR.2 := by
  unfold Rd.actR
  split
  · rename_i hs
    dsimp only
    split
    · rename_i hc
      simp only [Bool.and_eq_true] at hc
      exact (h.see hs).num.back hc.1
    · exact (h.see hs).num
  · dsimp only
    split
    · rename_i hs; exact (many expr _ ((h.want _ _).name.see hs).expr).want _ _
    · exact (h.want _ _).name
theorem rule {r : Rd} (h : Iv r) : Iv r.rule.2 := (many actR _ ((many condR _ (((h.want _ _).name.num.want _ _).condR)).want _ _).actR).want _ _
end Iv
end Go.PV
namespace Go.PV
open Go
/-! patterns -/
structure Pat where
  n : Bs
  t : Atm
  l : List Nod
abbrev Pat.v (p : Pat) : List V := [.str p.n, .str p.t.n, .sl 4 (trmV p.t.a), .sl 5 (nodV p.l)]
instance : DecidableEq Pat := fun a b => decidable_of_iff (a.n = b.n ∧ a.t = b.t ∧ a.l = b.l) (by cases a; cases b; simp)
def zeroP : Pat := ⟨[], zeroA, []⟩
def patOk (p : Pat) : Bool := nameS p.n && (atomOk p.t && fmlOk p.l)
def patW : Bs := [112, 97, 116, 116, 101, 114, 110]
def patT (p : Pat) : Bs := patW ++ [32] ++ p.n ++ [58, 32] ++ atomT p.t ++ [32, 61, 62, 32] ++ fmlT p.l ++ [46]
def fmlE (l : List Nod) : Int := if fmlOk l then (if 20000 < (fmlT l).length then 2 else 0) else 17
def fmlX (l : List Nod) : Bs := if fmlE l = 0 then fmlT l else []
def patE (p : Pat) : Int := if patOk p then (if 20000 < (patT p).length then 2 else 0) else 17
def patX (p : Pat) : Bs := if patE p = 0 then patT p else []
def patR (r : Rd) : Pat × Rd :=
  let n := (r.want 1 patW).name
  let t := (n.2.want 5 [58]).atom
  let f := (t.2.want 5 [61, 62]).formula
  (⟨n.1, t.1, f.2.1⟩, f.2.2.want 5 [46])
def readP (l : List Tok) (i : Nat) : Pat × Nat × Int :=
  let x := patR (rd0 l i)
  if x.2.endE = 0 then (if patOk x.1 then (x.1, x.2.endI i, 0) else (zeroP, i, 7)) else (zeroP, x.2.endI i, 7)
theorem FT.txt_len : ∀ {T : FT}, T.ok = true → T.txt.length ≤ 710 * T.size
  | .at_ a, h => by have := atomT_len (a := a) h; simp only [txt, size]; omega
  | .one k t, h => by
    simp only [ok, Bool.and_eq_true, decide_eq_true_eq] at h
    have := FT.txt_len h.2
    have hw : (wordT k).length ≤ 6 := by unfold wordT; (repeat' split) <;> decide
    simp only [txt, size, List.length_append, List.length_cons, List.length_nil]; omega
  | .two k s t, h => by
    simp only [ok, Bool.and_eq_true, decide_eq_true_eq] at h
    have := FT.txt_len h.2.1
    have := FT.txt_len h.2.2
    have hw : (wordT k).length ≤ 6 := by unfold wordT; (repeat' split) <;> decide
    simp only [txt, size, List.length_append, List.length_cons, List.length_nil]; omega
theorem fmlT_len {l : List Nod} (h : fmlOk l = true) : (fmlT l).length ≤ 28400 := by
  obtain ⟨T, h1, h2, h3, h4⟩ := fml_tree h
  rw [h2, fmlT_tree h1]
  have := FT.txt_len h1
  omega
theorem patOk_all {p : Pat} (h : patOk p = true) : nameS p.n = true ∧ atomOk p.t = true ∧ fmlOk p.l = true := by
  unfold patOk at h; simp only [Bool.and_eq_true] at h; exact ⟨h.1, h.2.1, h.2.2⟩
theorem patT_len {p : Pat} (h : patOk p = true) : (patT p).length ≤ 30000 ∧ (fmlT p.l).length ≤ (patT p).length ∧ (atomT p.t).length ≤ 700 ∧ p.n.length ≤ 24 ∧ (fmlT p.l).length ≤ 28400 := by
  obtain ⟨h1, h2, h3⟩ := patOk_all h
  have := name_len h1
  have := atomT_len h2
  have := fmlT_len h3
  unfold patT patW
  simp only [List.length_append, List.length_cons, List.length_nil]; omega
def patK (b n : Bs) (t : Atm) (T : FT) : List (Bs × KT) := (b, (1, patW)) :: ([32], (1, n)) :: ([], (5, [58])) :: (atomK [32] t ++ ([32], (5, [61, 62])) :: (T.toks [32] ++ [([], (5, [46]))]))
theorem patK_T (b n : Bs) (t : Atm) (T : FT) : weaveK (patK b n t T) = b ++ (patW ++ [32] ++ n ++ [58, 32] ++ atomT t ++ [32, 61, 62, 32] ++ T.txt ++ [46]) := by
  unfold patK
  simp only [weaveK, weaveK_app, weave_atom, FT.weave_toks]
  simp
theorem wov_pat {n : Bs} {t : Atm} {T : FT} (hn : nameS n = true) (ht : atomOk t = true) (hT : T.ok = true) {b tail : Bs} (hb : blk b = true) (hs : stopH tail = true) : WovK tail (patK b n t T) := by
  refine ⟨hb, by unfold Tk; decide +kernel, okEnd_stop rfl, rfl, tk_word (large := false) (nameS_word hn), okEnd_stop rfl, rfl, by unfold Tk; decide +kernel, ?_, WovK.app (wov_atom rfl rfl ht) ⟨rfl, by unfold Tk; decide +kernel, ?_, WovK.app (FT.wov hT [32] _ rfl rfl) ⟨rfl, by unfold Tk; decide +kernel, okEnd_stop hs, trivial⟩⟩⟩
  · rw [weaveK_app, weave_atom]; exact okEnd_stop rfl
  · rw [weaveK_app, FT.weave_toks]; exact okEnd_stop rfl
theorem pat_rest {r : Rd} {n : Bs} {t : Atm} {T : FT} {b : Bs} {m : List KT} (hn : nameS n = true) (ht : atomOk t = true) (hT : T.ok = true) (ho : r.isOpen = true) (hr : r.rest = (patK b n t T).map (·.2) ++ m) : patR r = (⟨n, t, T.nodes 0⟩, r.adv (patK b n t T).length) := by
  have hr : r.rest = (1, patW) :: (1, n) :: (5, [58]) :: ((atomK [32] t).map (·.2) ++ (5, [61, 62]) :: ((T.toks [32]).map (·.2) ++ (5, [46]) :: m)) := by rw [hr]; simp [patK]
  have c1 := Rd.rest_cons hr
  have c2 := Rd.rest_cons c1.2
  have c3 := Rd.rest_cons c2.2
  have w1 := Rd.want_rest ho hr
  have w2 := Rd.name_rest (r := r.step) ho c1.2 hn
  have w3 := Rd.want_rest (r := r.step.step) ho c2.2
  have w4 := Rd.atom_rest (r := r.step.step.step) ho ht c3.2 (fun _ => by simp)
  have d1 := adv_rest c3.2
  rw [List.length_map] at d1
  have w5 := Rd.want_rest (r := r.step.step.step.adv (atomK [32] t).length) ho d1
  have d2 := (Rd.rest_cons d1).2
  have w6 := Rd.formula_rest (r := (r.step.step.step.adv (atomK [32] t).length).step) hT ho d2 (by simp)
  have d3 := adv_rest d2
  rw [List.length_map] at d3
  have w7 := Rd.want_rest (r := (r.step.step.step.adv (atomK [32] t).length).step.adv (T.toks [32]).length) ho d3
  dsimp only at w1 w3 w5 w7
  unfold patR
  dsimp only
  rw [w1, w2]
  dsimp only
  rw [w3, w4]
  dsimp only
  rw [w5, w6]
  dsimp only
  rw [w7]
  refine Prod.ext rfl ?_
  simp only [Rd.adv, Rd.step, patK, List.length_cons, List.length_append, List.length_nil]
  congr 1; omega
theorem readP_back {l : List Tok} {i : Nat} {n : Bs} {t : Atm} {T : FT} {b : Bs} {m : List KT} (hn : nameS n = true) (ht : atomOk t = true) (hT : T.ok = true) (hk : fmlOk (T.nodes 0) = true) (hr : (l.drop i).map kt = (patK b n t T).map (·.2) ++ m) : readP l i = (⟨n, t, T.nodes 0⟩, i + (patK b n t T).length, 0) := by
  have e := pat_rest (r := rd0 l i) hn ht hT rfl hr
  unfold readP
  rw [e]
  dsimp only
  rw [if_pos (show ((rd0 l i).adv (patK b n t T).length).endE = 0 from rfl), if_pos (by unfold patOk; rw [hn, ht, hk]; rfl)]
  rfl
theorem lex_pat {n : Bs} {t : Atm} {T : FT} (hn : nameS n = true) (ht : atomOk t = true) (hT : T.ok = true) {q : List (Bs × KT)} (hq : WovK [] q) (hs : stopH (weaveK q) = true) :
    errR (weaveK (patK [] n t T) ++ weaveK q) = 0 ∧ (toksR (weaveK (patK [] n t T) ++ weaveK q)).map kt = (patK [] n t T).map (·.2) ++ q.map (·.2) := by
  have hw := WovK.app (tail := []) (a := patK [] n t T) (b := q) (by rw [List.append_nil]; exact wov_pat hn ht hT rfl hs) hq
  obtain ⟨h1, h2, _⟩ := wovK_R hw rfl
  rw [List.append_nil, weaveK_app] at h1 h2
  exact ⟨h2, by rw [h1, posL_kt, List.map_append]⟩
theorem parse_pat {p : Pat} (h : patOk p = true) : errR (patT p) = 0 ∧ readP (toksR (patT p)) 0 = (p, (toksR (patT p)).length, 0) := by
  obtain ⟨h1, h2, h3⟩ := patOk_all h
  obtain ⟨T, t1, t2, t3, t4⟩ := fml_tree h3
  have e : weaveK (patK [] p.n p.t T) = patT p := by
    rw [patK_T, List.nil_append]; unfold patT; rw [t2, fmlT_tree t1]
  have h4 := lex_pat h1 h2 t1 (q := []) trivial rfl
  have e2 : weaveK (patK [] p.n p.t T) ++ weaveK [] = patT p := by rw [e]; exact List.append_nil _
  rw [e2] at h4
  have h5 := readP_back (l := toksR (patT p)) (i := 0) (m := []) h1 h2 t1 (by rw [← t2]; exact h3) (by rw [List.drop_zero]; exact h4.2)
  have h6 : (toksR (patT p)).length = (patK [] p.n p.t T).length := by have := congrArg List.length h4.2; simpa using this
  refine ⟨h4.1, ?_⟩
  rw [h5, h6, Nat.zero_add, ← t2]
/-! what is read is right -/
namespace Iv
theorem words : ∀ (L : List (Int × Bs)) {r : Rd}, Iv r → Iv (Rd.wordsR L r).2
  | [], _, h => h
  | (k, s) :: L, r, h => by
    unfold Rd.wordsR
    split
    · rename_i hs; exact h.see hs
    · exact words L h
theorem beg : ∀ (f : Nat) {r : Rd} (st : List Frm), Iv r → Iv (Rd.beg f r st).2
  | 0, _, _, h => h
  | f + 1, r, st, h => by
    unfold Rd.beg
    split
    · split
      · rename_i hs; exact beg f _ (h.see hs)
      · exact h
    · exact beg f _ (words _ h)
theorem clo : ∀ (st : List Frm) (l : List Nod) {r : Rd}, Iv r → Iv (Rd.clo st l r).2.2.2
  | [], _, _, h => h
  | (k, a) :: st, l, r, h => by
    unfold Rd.clo
    split
    · rename_i ho
      split
      · exact clo st _ h
      · split
        · exact clo st _ (h.want _ _)
        · split
          · exact h.fail ho
          · exact words _ h
    · exact h
theorem forG : ∀ (f : Nat) {r : Rd} (st : List Frm) (l : List Nod), Iv r → Iv (Rd.forG f r st l).2.2
  | 0, _, _, _, h => h
  | f + 1, r, st, l, h => by
    unfold Rd.forG
    split
    · have h2 := clo (Rd.beg (r.l.length + 1) r st).1 (l ++ [⟨1, (Rd.beg (r.l.length + 1) r st).2.atom.1, 0, 0⟩]) (beg (r.l.length + 1) st h).atom
      dsimp only
      split
      · exact h2
      · exact forG f _ _ h2
    · exact h
theorem formula {r : Rd} (h : Iv r) : Iv r.formula.2.2 := forG _ _ _ h
end Iv
namespace Rd
theorem clo_open : ∀ (st : List Frm) (l : List Nod) {r : Rd}, (clo st l r).2.2.2.isOpen = true → r.isOpen = true
  | [], _, _, h => h
  | (k, a) :: st, l, r, h => by
    unfold clo at h
    split at h
    · assumption
    · exact h
end Rd
end Go.PV
namespace Go.PV
open Go
/-! facts of a formula's nodes -/
def AccB (a : List (Nat × Nat)) : Prop := ∀ (j : Nat) (p : Nat × Nat), a[j]? = some p → p.1 ≤ j ∧ p.2 ≤ j + 1
theorem last_at {a : List (Nat × Nat)} {p : Nat × Nat} (h : a.getLast? = some p) : 1 ≤ a.length ∧ a[a.length - 1]? = some p := by
  rw [List.getLast?_eq_getElem?] at h
  exact ⟨by have := (List.getElem?_eq_some_iff.1 h).1; omega, h⟩
theorem nod_cases {a : List (Nat × Nat)} {o : Nod} {p : Nat × Nat} (hB : AccB a) (h : nodS a o = some p) :
    (armsN o.k = 0 ∧ o.x = 0 ∧ o.y = 0 ∧ atomOk o.a = true ∧ p = (a.length, 1)) ∨
    (armsN o.k = 1 ∧ 1 ≤ a.length ∧ o.x = (a.length : Int) - 1 ∧ o.y = 0 ∧ o.a = zeroA ∧ ∃ q, a[a.length - 1]? = some q ∧ p = (q.1, q.2 + 1)) ∨
    (armsN o.k = 2 ∧ 1 ≤ a.length ∧ o.y = (a.length : Int) - 1 ∧ o.a = zeroA ∧ ∃ q s, a[a.length - 1]? = some q ∧ 1 ≤ q.1 ∧ q.1 < a.length ∧ o.x = (q.1 : Int) - 1 ∧ a[q.1 - 1]? = some s ∧ p = (s.1, max s.2 q.2 + 1)) := by
  unfold nodS at h
  split at h
  · rename_i h0
    split at h
    · rename_i hc
      cases h
      exact .inl ⟨h0, hc.1, hc.2.1, hc.2.2, rfl⟩
    · cases h
  · split at h
    · rename_i h1
      split at h
      · rename_i q hq
        obtain ⟨l1, l2⟩ := last_at hq
        split at h
        · rename_i hc
          cases h
          exact .inr (.inl ⟨h1, l1, hc.1, hc.2.1, hc.2.2, q, l2, rfl⟩)
        · cases h
      · cases h
    · split at h
      · rename_i h2
        split at h
        · rename_i q hq
          obtain ⟨l1, l2⟩ := last_at hq
          split at h
          · rename_i hc
            split at h
            · rename_i s hs
              cases h
              have := (hB _ _ l2).1
              exact .inr (.inr ⟨h2, l1, hc.1, hc.2.2.2, q, s, l2, hc.2.1, by omega, hc.2.2.1, hs, rfl⟩)
            · cases h
          · cases h
        · cases h
      · cases h
theorem accB_nil : AccB [] := fun j p h => by simp at h
theorem accB_snoc {a : List (Nat × Nat)} {o : Nod} {p : Nat × Nat} (hB : AccB a) (h : nodS a o = some p) : AccB (a ++ [p]) := by
  intro j q hj
  rw [List.getElem?_append] at hj
  split at hj
  · exact hB j q hj
  · rename_i hge
    cases hz : j - a.length with
    | succ m => rw [hz] at hj; simp at hj
    | zero =>
      rw [hz] at hj
      simp only [List.getElem?_cons_zero, Option.some.injEq] at hj
      subst hj
      have e : j = a.length := by omega
      subst e
      rcases nod_cases hB h with ⟨_, _, _, _, rfl⟩ | ⟨_, h1, _, _, _, q, hq, rfl⟩ | ⟨_, h1, _, _, q, s, hq, h2, h3, _, hs, rfl⟩
      · exact ⟨Nat.le_refl _, by dsimp only; omega⟩
      · have := hB _ _ hq; dsimp only; omega
      · have := hB _ _ hq; have := hB _ _ hs; dsimp only; omega
theorem fromsGo_step {a : List (Nat × Nat)} {l : List Nod} {k : Nat} (hk : k < l.length) : fromsGo a (l.drop k) = (match nodS a l[k] with | some p => fromsGo (a ++ [p]) (l.drop (k + 1)) | none => none) := by
  rw [List.drop_eq_getElem_cons hk, fromsGo]
  try (cases nodS a l[k] <;> rfl)
theorem fromsGo_len : ∀ {l : List Nod} {a b : List (Nat × Nat)}, fromsGo a l = some b → b.length = a.length + l.length ∧ ∃ t, b = a ++ t
  | [], a, b, h => by simp only [fromsGo, Option.some.injEq] at h; subst h; exact ⟨rfl, [], by simp⟩
  | o :: l, a, b, h => by
    simp only [fromsGo] at h
    split at h
    · rename_i p hp
      obtain ⟨h1, t, h2⟩ := fromsGo_len h
      exact ⟨by rw [h1]; simp; omega, p :: t, by rw [h2]; simp⟩
    · cases h
theorem fromsGo_B : ∀ {l : List Nod} {a b : List (Nat × Nat)}, AccB a → fromsGo a l = some b → AccB b
  | [], a, b, hB, h => by simp only [fromsGo, Option.some.injEq] at h; subst h; exact hB
  | o :: l, a, b, hB, h => by
    simp only [fromsGo] at h
    split at h
    · rename_i p hp; exact fromsGo_B (accB_snoc hB hp) h
    · cases h
theorem froms_at {l : List Nod} {b : List (Nat × Nat)} (h : fromsS l = some b) {k : Nat} (hk : k < l.length) : ∃ p, nodS (b.take k) l[k] = some p ∧ b[k]? = some p ∧ (b.take k).length = k ∧ AccB (b.take k) := by
  have e : fromsS l = (fromsGo [] (l.take k)).bind fun a => fromsGo a (l.drop k) := by rw [← fromsGo_app, List.take_append_drop]; rfl
  rw [h] at e
  cases ha : fromsGo [] (l.take k) with
  | none => rw [ha] at e; cases e
  | some a =>
    rw [ha, Option.bind_some, fromsGo_step hk] at e
    obtain ⟨l1, _⟩ := fromsGo_len ha
    rw [List.length_take, List.length_nil] at l1
    have l1 : a.length = k := by omega
    have hB := fromsGo_B accB_nil ha
    cases hn : nodS a l[k] with
    | none => rw [hn] at e; cases e
    | some p =>
      rw [hn] at e
      obtain ⟨_, t, h2⟩ := fromsGo_len e.symm
      have e1 : b.take k = a := by rw [h2, List.append_assoc, List.take_append_of_le_length (by omega), List.take_of_length_le (by omega)]
      refine ⟨p, by rw [e1]; exact hn, ?_, by rw [e1]; exact l1, by rw [e1]; exact hB⟩
      rw [h2, List.append_assoc, List.getElem?_append_right (by omega), l1, Nat.sub_self]; rfl
theorem FT.txts_b : ∀ {T : FT}, T.ok = true → ∀ s ∈ T.txts, s.length ≤ 710 * T.size
  | .at_ a, h, s, hs => by simp [txts] at hs; subst hs; exact FT.txt_len (T := .at_ a) h
  | .one k t, h, s, hs => by
    have hh := h
    simp only [ok, Bool.and_eq_true, decide_eq_true_eq] at hh
    rcases List.mem_append.1 hs with hs | hs
    · have := FT.txts_b hh.2 s hs; simp only [size]; omega
    · simp at hs; subst hs; exact FT.txt_len h
  | .two k x t, h, s, hs => by
    have hh := h
    simp only [ok, Bool.and_eq_true, decide_eq_true_eq] at hh
    rcases List.mem_append.1 hs with hs | hs
    · rcases List.mem_append.1 hs with hs | hs
      · have := FT.txts_b hh.2.1 s hs; simp only [size]; omega
      · have := FT.txts_b hh.2.2 s hs; simp only [size]; omega
    · simp at hs; subst hs; exact FT.txt_len h
theorem txGo_len : ∀ (l : List Nod) (a : List Bs), (txGo a l).length = a.length + l.length ∧ ∃ t, txGo a l = a ++ t
  | [], a => ⟨rfl, [], by simp [txGo]⟩
  | o :: l, a => by
    obtain ⟨h1, t, h2⟩ := txGo_len l (a ++ [nodT a o])
    exact ⟨by rw [txGo, h1]; simp; omega, nodT a o :: t, by rw [txGo, h2]; simp⟩
theorem txGo_step (l : List Nod) {k : Nat} (hk : k < l.length) : txGo [] (l.take (k + 1)) = txGo [] (l.take k) ++ [nodT (txGo [] (l.take k)) l[k]] := by
  rw [← List.take_append_getElem hk, txGo_app]; rfl
theorem tx_b {l : List Nod} (h : fmlOk l = true) (k : Nat) : ∀ s ∈ txGo [] (l.take k), s.length ≤ 28400 := by
  obtain ⟨T, h1, h2, h3, h4⟩ := fml_tree h
  have h5 := FT.tx h1 []
  simp only [List.length_nil, List.nil_append] at h5
  rw [← h2] at h5
  intro s hs
  have e : txGo [] l = txGo (txGo [] (l.take k)) (l.drop k) := by rw [← txGo_app, List.take_append_drop]
  obtain ⟨_, t, h6⟩ := txGo_len (l.drop k) (txGo [] (l.take k))
  have : s ∈ T.txts := by rw [← h5, e, h6]; exact List.mem_append_left _ hs
  have := FT.txts_b h1 s this
  omega
theorem fmlOk_froms {l : List Nod} (h : fmlOk l = true) : 1 ≤ l.length ∧ l.length ≤ 40 ∧ ∃ b, fromsS l = some b := by
  unfold fmlOk at h
  simp only [Bool.and_eq_true, decide_eq_true_eq] at h
  obtain ⟨h1, h2⟩ := h
  split at h2
  · rename_i b hb; exact ⟨h1.1, h1.2, b, hb⟩
  · cases h2
/-- where a node's own begin -/
def fromN (l : List Nod) (i : Int) : Int := if fmlOk l && decide (0 ≤ i ∧ i < l.length) then (match fromsS l with | some b => (match b[i.toNat]? with | some p => (p.1 : Int) | none => -1) | none => -1) else -1
def nodB (o : Nod) : Prop := o.a.n.length ≤ 1000000 ∧ o.a.a.length ≤ 1000000 ∧ ∀ t ∈ o.a.a, t.v.length ≤ 1000000 ∧ t.x.s.length ≤ 1000000
end Go.PV
namespace Go.PV
open Go Go.Proofs
set_option maxRecDepth 100000
theorem arms_good (k : Int) : Good Tryz.prog 141 [.int .i64 k] [] [.int .i64 (armsN k)] [] := by
  refine good_of hP Tryz.func141 (by kernel_rfl) (lv := [0, 2, 3, 4, 6, 11]) (js := []) ⟨rfl, rfl, rfl, rfl, rfl, rfl, _, rfl, ?_⟩
  by_cases hk : 1 ≤ k ∧ k ≤ 8
  · have h8 : k = 1 ∨ k = 2 ∨ k = 3 ∨ k = 4 ∨ k = 5 ∨ k = 6 ∨ k = 7 ∨ k = 8 := by omega
    rcases h8 with rfl | rfl | rfl | rfl | rfl | rfl | rfl | rfl
    all_goals
      conv => whnf
      exact fin0 rfl trivial
  · have e : armsN k = -1 := by rcases arms_cases k with h | h | h | h <;> omega
    rw [e]
    conv => whnf
    refine branch_of (fun h => ?_) (fun h => ?_)
    · exact absurd (of_decide_eq_true h) (by omega)
    conv => whnf
    refine branch_of (fun h => ?_) (fun h => ?_)
    · exact absurd (of_decide_eq_true h) (by omega)
    conv => whnf
    refine branch_of (fun h => ?_) (fun h => ?_)
    · exact absurd (of_decide_eq_true h) (by omega)
    conv => whnf
    refine branch_of (fun h => ?_) (fun h => ?_)
    · exact absurd (of_decide_eq_true h) (by omega)
    conv => whnf
    refine branch_of (fun h => ?_) (fun h => ?_)
    · exact absurd (of_decide_eq_true h) (by omega)
    conv => whnf
    refine branch_of (fun h => ?_) (fun h => ?_)
    · exact absurd (of_decide_eq_true h) (by omega)
    conv => whnf
    refine branch_of (fun h => ?_) (fun h => ?_)
    · exact absurd (of_decide_eq_true h) (by omega)
    conv => whnf
    refine branch_of (fun h => ?_) (fun h => ?_)
    · exact absurd (of_decide_eq_true h) (by omega)
    conv => whnf
    exact fin0 rfl trivial
theorem empty_good (a : Atm) : Good Tryz.prog 143 [.agg a.c] [] [.bool (decide (a = zeroA))] [] := by
  obtain ⟨n, l⟩ := a
  refine good_of hP Tryz.func143 (by kernel_rfl) (lv := [0, 1, 2]) (js := []) ⟨rfl, rfl, rfl, rfl, rfl, rfl, _, rfl, ?_⟩
  conv => whnf
  refine branch_of (fun h => ?_) (fun h => ?_)
  · have h : n = [] := of_decide_eq_true h
    subst h
    conv => whnf
    refine fin0 ?_ trivial
    cases l with
    | nil => rfl
    | cons x r =>
      have e : decide ((⟨[], x :: r⟩ : Atm) = zeroA) = false := decide_eq_false (by intro e; injection e with _ e; cases e)
      rw [e]
      have e2 : decide ((((x :: r).map Trm.c).length : Int) = 0) = false := decide_eq_false (by rw [List.length_map, List.length_cons]; omega)
      rw [e2]
  · have h : ¬ n = [] := of_decide_eq_false h
    have e : decide ((⟨n, l⟩ : Atm) = zeroA) = false := decide_eq_false (by intro e; injection e with e _; exact h e)
    rw [e]
    conv => whnf
    exact fin0 rfl trivial
def onesM : MD := .i [(2, .str [110, 111, 116]), (5, .str [98, 101, 102, 111, 114, 101]), (6, .str [111, 110, 99, 101]), (7, .str [97, 108, 119, 97, 121, 115])]
def twosM : MD := .i [(3, .str [97, 110, 100]), (4, .str [111, 114]), (8, .str [115, 105, 110, 99, 101])]
theorem ones_good : Good Tryz.prog 144 [] [] [.mp 0 0] [.box 0 [.md onesM]] := by
  refine good_of hP Tryz.func144 (by kernel_rfl) (lv := [0]) (js := []) ⟨rfl, rfl, rfl, rfl, rfl, rfl, _, rfl, ?_⟩
  conv => whnf
  refine ⟨[(65, 0)], rfl, ?_⟩
  conv => whnf
  exact ⟨⟨⟩, rfl, trivial⟩
theorem twos_good : Good Tryz.prog 145 [] [] [.mp 0 0] [.box 0 [.md twosM]] := by
  refine good_of hP Tryz.func145 (by kernel_rfl) (lv := [0]) (js := []) ⟨rfl, rfl, rfl, rfl, rfl, rfl, _, rfl, ?_⟩
  conv => whnf
  refine ⟨[(65, 0)], rfl, ?_⟩
  conv => whnf
  exact ⟨⟨⟩, rfl, trivial⟩
abbrev frV (a : List (Nat × Nat)) : List (List V) := a.map fun p => [.int .i64 p.1]
abbrev dpV (a : List (Nat × Nat)) : List (List V) := a.map fun p => [.int .i64 p.2]
theorem froms_good (l : List Nod) (hl : l.length ≤ 1000000) (hb : ∀ o ∈ l, nodB o) : Good Tryz.prog 80 [.sl 5 (nodV l)] [] [.sl 1 (frV ((fromsS l).getD [])), .sl 1 (dpV ((fromsS l).getD [])), .bool (fromsS l).isSome] [] := by
  refine good_of hP Tryz.func80 (by kernel_rfl) (lv := [0, 2, 3, 4, 5, 6, 7, 8, 9, 10, 16, 17, 32, 40, 61, 79, 114]) (js := []) ⟨rfl, rfl, rfl, rfl, rfl, rfl, _, rfl, ?_⟩
  generalize hU : fromsS l = U
  conv => whnf
  refine loop_of hP [0, 2, 3, 4, 5, 6, 7, 8, 9, 10, 16, 17, 32, 40, 61, 79, 114] [] [2, 3, 7, 8, 9] [66, 67] [.slot 2 1, .slot 3 1] (fun m st => ∃ (k : Nat) (a : List (Nat × Nat)), m = l.length - k ∧ k ≤ l.length ∧ a.length = k ∧ AccB a ∧ fromsGo a (l.drop k) = U ∧
    st = ⟨[(2, .own 66 0), (3, .own 67 0), (7, .sl 5 (nodV l)), (8, .int .i64 l.length), (9, .int .i64 k)], [(66, .arr 0 false 1 (frV a)), (67, .arr 0 false 1 (dpV a))]⟩) l.length ?_ ?_
  · conv => whnf
    exact ⟨0, [], rfl, Nat.zero_le _, rfl, accB_nil, hU, by rw [← List.length_map (f := Nod.c)]; rfl⟩
  · rintro m st ⟨k, a, rfl, hk, hak, hB, hU, rfl⟩
    have hal : (frV a).length = k ∧ (dpV a).length = k := ⟨by rw [List.length_map, hak], by rw [List.length_map, hak]⟩
    conv => whnf
    refine branch_of (fun h => ?_) (fun h => ?_)
    · have h := of_decide_eq_true h
      have hk' : k < l.length := by omega
      rw [fromsGo_step hk'] at hU
      have hbk := hb _ (List.getElem_mem hk')
      have hrow := idxM (f := Nod.c) hk' rfl
      generalize hx : l[k] = x at *
      obtain ⟨xk, xa, xx, xy⟩ := x
      have hap : ∀ (p : Nat × Nat), frV (a ++ [p]) = frV a ++ [[.int .i64 p.1]] ∧ dpV (a ++ [p]) = dpV a ++ [[.int .i64 p.2]] := fun p => ⟨List.map_append, List.map_append⟩
      have hnext : ∀ (p : Nat × Nat), nodS a ⟨xk, xa, xx, xy⟩ = some p → fromsGo (a ++ [p]) (l.drop (k + 1)) = U := fun p hp => by rw [hp] at hU; exact hU
      have hnone : nodS a ⟨xk, xa, xx, xy⟩ = none → U = none := fun hp => by rw [hp] at hU; exact hU.symm
      have hw : IntKind.i64.wrap ((k : Int) + 1) = ((k + 1 : Nat) : Int) := by rw [wr (by omega) (by omega)]; rfl
      have hcon : ∀ (p : Nat × Nat), nodS a ⟨xk, xa, xx, xy⟩ = some p → ∃ (k' : Nat) (a' : List (Nat × Nat)), l.length - (k + 1) = l.length - k' ∧ k' ≤ l.length ∧ a'.length = k' ∧ AccB a' ∧ fromsGo a' (l.drop k') = U ∧ k' = k + 1 ∧ a' = a ++ [p] := fun p hp => ⟨k + 1, a ++ [p], rfl, by omega, by simp [hak], accB_snoc hB hp, hnext p hp, rfl, rfl⟩
      conv => whnf
      refine ⟨_, hrow, ?_⟩
      conv => whnf
      refine call0 (arms_good xk) ?_
      rcases arms_cases xk with ⟨ha, hkk⟩ | ⟨ha, hkk⟩ | ⟨ha, hkk⟩ | ⟨ha, hkk⟩
      · rw [ha]
        conv => whnf
        have hno : nodS a ⟨xk, xa, xx, xy⟩ = if xx = 0 ∧ xy = 0 ∧ atomOk xa = true then some (a.length, 1) else none := by unfold nodS; rw [if_pos ha]
        refine branch_of (fun h1 => ?_) (fun h1 => ?_)
        · have h1 : ¬ xx = 0 := of_decide_eq_false (by simpa using h1)
          have := hnone (by rw [hno, if_neg (fun q => h1 q.1)])
          subst this
          conv => whnf
          exact fin0 rfl trivial
        have h1 : xx = 0 := of_decide_eq_true (by simpa using h1)
        conv => whnf
        refine branch_of (fun h2 => ?_) (fun h2 => ?_)
        · have h2 : ¬ xy = 0 := of_decide_eq_false (by simpa using h2)
          have := hnone (by rw [hno, if_neg (fun q => h2 q.2.1)])
          subst this
          conv => whnf
          exact fin0 rfl trivial
        have h2 : xy = 0 := of_decide_eq_true (by simpa using h2)
        conv => whnf
        refine call0 (mcheck_good xa hbk) ?_
        cases hq : atomOk xa with
        | false =>
          have := hnone (by rw [hno, if_neg (fun q => by rw [hq] at q; cases q.2.2)])
          subst this
          conv => whnf
          exact fin0 rfl trivial
        | true =>
          obtain ⟨k', a', e1, e2, e3, e4, e5, e6, e7⟩ := hcon (a.length, 1) (by rw [hno, if_pos ⟨h1, h2, hq⟩])
          subst e6
          conv => whnf
          refine ⟨⟨⟩, by dsimp only; rw [hal.1]; simp only [List.length_cons, List.length_nil]; omega, ?_⟩
          conv => whnf
          refine ⟨⟨⟩, by dsimp only; rw [hal.2]; simp only [List.length_cons, List.length_nil]; omega, ?_⟩
          conv => whnf
          rw [hw]
          refine ⟨l.length - (k + 1), by omega, k + 1, a', rfl, e2, e3, e4, e5, ?_⟩
          rw [e7, (hap _).1, (hap _).2, hak]
          rfl
      · rw [ha]
        conv => whnf
        refine branch_of (fun h0 => ?_) (fun h0 => ?_)
        · have h0 := of_decide_eq_true h0
          have : k = 0 := by omega
          subst this
          have ha0 : a = [] := List.eq_nil_of_length_eq_zero hak
          subst ha0
          have := hnone (by unfold nodS; rw [if_neg (by dsimp only; omega), if_pos ha]; rfl)
          subst this
          conv => whnf
          exact fin0 rfl trivial
        have h0 := of_decide_eq_false h0
        have hk1 : k - 1 < a.length := by omega
        have hlast : a.getLast? = some a[k - 1] := by rw [List.getLast?_eq_getElem?, hak, List.getElem?_eq_getElem hk1]
        have hno : nodS a ⟨xk, xa, xx, xy⟩ = if xx = (a.length : Int) - 1 ∧ xy = 0 ∧ xa = zeroA then some ((a[k - 1]).1, (a[k - 1]).2 + 1) else none := by
          unfold nodS; rw [if_neg (by dsimp only; omega), if_pos ha, hlast]
        have hw1 : IntKind.i64.wrap ((k : Int) - 1) = ((k - 1 : Nat) : Int) := by rw [wr (by omega) (by omega)]; omega
        have hBk := hB (k - 1) a[k - 1] (List.getElem?_eq_getElem hk1)
        have r1 : ∀ g : Nat × Nat → List V, (a.map g)[((k - 1 : Nat) : Int).toNat]? = some (g a[k - 1]) := fun g => by rw [Int.toNat_natCast, List.getElem?_map, List.getElem?_eq_getElem hk1]; rfl
        conv => whnf
        rw [hw1]
        refine branch_of (fun h1 => ?_) (fun h1 => ?_)
        · have h1 : ¬ xx = ((k - 1 : Nat) : Int) := of_decide_eq_false (by simpa using h1)
          have := hnone (by rw [hno, if_neg (fun q => h1 (by rw [q.1, hak]; omega))])
          subst this
          conv => whnf
          exact fin0 rfl trivial
        have h1 : xx = ((k - 1 : Nat) : Int) := of_decide_eq_true (by simpa using h1)
        conv => whnf
        refine branch_of (fun h2 => ?_) (fun h2 => ?_)
        · have h2 : ¬ xy = 0 := of_decide_eq_false (by simpa using h2)
          have := hnone (by rw [hno, if_neg (fun q => h2 q.2.1)])
          subst this
          conv => whnf
          exact fin0 rfl trivial
        have h2 : xy = 0 := of_decide_eq_true (by simpa using h2)
        conv => whnf
        refine call0 (empty_good xa) ?_
        by_cases hz : xa = zeroA
        · rw [decide_eq_true hz]
          obtain ⟨k', a', e1, e2, e3, e4, e5, e6, e7⟩ := hcon ((a[k - 1]).1, (a[k - 1]).2 + 1) (by rw [hno, if_pos ⟨by rw [h1, hak]; omega, h2, hz⟩])
          subst e6
          conv => whnf
          rw [hw1]
          refine ⟨⟨⟩, by rw [hal.1]; omega, ?_⟩
          conv => whnf
          refine ⟨_, r1 _, ?_⟩
          conv => whnf
          refine ⟨⟨⟩, by dsimp only; rw [hal.1]; simp only [List.length_cons, List.length_nil]; omega, ?_⟩
          conv => whnf
          rw [hw1]
          refine ⟨⟨⟩, by rw [hal.2]; omega, ?_⟩
          conv => whnf
          refine ⟨_, r1 _, ?_⟩
          conv => whnf
          refine ⟨⟨⟩, by dsimp only; rw [hal.2]; simp only [List.length_cons, List.length_nil]; omega, ?_⟩
          conv => whnf
          refine ⟨by kernel_rfl, ?_⟩
          conv => whnf
          rw [hw]
          refine ⟨l.length - (k + 1), by omega, k + 1, a', rfl, e2, e3, e4, e5, ?_⟩
          rw [e7, (hap _).1, (hap _).2, wr (by omega) (by omega)]
          rfl
        · rw [decide_eq_false hz]
          have := hnone (by rw [hno, if_neg (fun q => hz q.2.2)])
          subst this
          conv => whnf
          exact fin0 rfl trivial
      · rw [ha]
        conv => whnf
        refine branch_of (fun h0 => ?_) (fun h0 => ?_)
        · have h0 := of_decide_eq_true h0
          have : k = 0 := by omega
          subst this
          have ha0 : a = [] := List.eq_nil_of_length_eq_zero hak
          subst ha0
          have := hnone (by unfold nodS; rw [if_neg (by dsimp only; omega), if_neg (by dsimp only; omega), if_pos ha]; rfl)
          subst this
          conv => whnf
          refine ⟨by kernel_rfl, ?_⟩
          conv => whnf
          exact fin0 rfl trivial
        have h0 := of_decide_eq_false h0
        have hk1 : k - 1 < a.length := by omega
        have hlast : a.getLast? = some a[k - 1] := by rw [List.getLast?_eq_getElem?, hak, List.getElem?_eq_getElem hk1]
        have hw1 : IntKind.i64.wrap ((k : Int) - 1) = ((k - 1 : Nat) : Int) := by rw [wr (by omega) (by omega)]; omega
        have hBk := hB (k - 1) a[k - 1] (List.getElem?_eq_getElem hk1)
        have r1 : ∀ g : Nat × Nat → List V, (a.map g)[((k - 1 : Nat) : Int).toNat]? = some (g a[k - 1]) := fun g => by rw [Int.toNat_natCast, List.getElem?_map, List.getElem?_eq_getElem hk1]; rfl
        generalize hq : a[k - 1] = q at *
        obtain ⟨q1, q2⟩ := q
        dsimp only at hBk
        have hno : nodS a ⟨xk, xa, xx, xy⟩ = if xy = (a.length : Int) - 1 ∧ 1 ≤ q1 ∧ xx = (q1 : Int) - 1 ∧ xa = zeroA then (match a[q1 - 1]? with | some s => some (s.1, max s.2 q2 + 1) | none => none) else none := by
          unfold nodS; rw [if_neg (by dsimp only; omega), if_neg (by dsimp only; omega), if_pos ha, hlast]
          try rfl
        conv => whnf
        rw [hw1]
        refine branch_of (fun h1 => ?_) (fun h1 => ?_)
        · have h1 : ¬ xy = ((k - 1 : Nat) : Int) := of_decide_eq_false (by simpa using h1)
          have := hnone (by rw [hno, if_neg (fun q => h1 (by rw [q.1, hak]; omega))])
          subst this
          conv => whnf
          refine ⟨by kernel_rfl, ?_⟩
          conv => whnf
          exact fin0 rfl trivial
        have h1 : xy = ((k - 1 : Nat) : Int) := of_decide_eq_true (by simpa using h1)
        subst h1
        conv => whnf
        rw [hw1]
        refine ⟨⟨⟩, by rw [hal.1]; omega, ?_⟩
        conv => whnf
        refine ⟨_, r1 _, ?_⟩
        conv => whnf
        refine branch_of (fun h2 => ?_) (fun h2 => ?_)
        · have h2 : ((q1 : Nat) : Int) < 1 := of_decide_eq_true h2
          have := hnone (by rw [hno, if_neg (fun q => by have := q.2.1; omega)])
          subst this
          conv => whnf
          refine ⟨by kernel_rfl, ?_⟩
          conv => whnf
          exact fin0 rfl trivial
        have h2 : ¬ ((q1 : Nat) : Int) < 1 := of_decide_eq_false h2
        have hwq : IntKind.i64.wrap ((q1 : Int) - 1) = ((q1 - 1 : Nat) : Int) := by rw [wr (by omega) (by omega)]; omega
        have hk2 : q1 - 1 < a.length := by omega
        have hBs := hB (q1 - 1) a[q1 - 1] (List.getElem?_eq_getElem hk2)
        have r2 : ∀ g : Nat × Nat → List V, (a.map g)[((q1 - 1 : Nat) : Int).toNat]? = some (g a[q1 - 1]) := fun g => by rw [Int.toNat_natCast, List.getElem?_map, List.getElem?_eq_getElem hk2]; rfl
        have hs : a[q1 - 1]? = some a[q1 - 1] := List.getElem?_eq_getElem hk2
        generalize a[q1 - 1] = z at *
        obtain ⟨z1, z2⟩ := z
        dsimp only at hBs
        rw [hs] at hno
        dsimp only at hno
        conv => whnf
        rw [hw1]
        refine ⟨⟨⟩, by rw [hal.1]; omega, ?_⟩
        conv => whnf
        refine ⟨_, r1 _, ?_⟩
        conv => whnf
        rw [hwq]
        refine branch_of (fun h3 => ?_) (fun h3 => ?_)
        · have h3 : ¬ xx = ((q1 - 1 : Nat) : Int) := of_decide_eq_false (by simpa using h3)
          have := hnone (by rw [hno, if_neg (fun q => h3 (by rw [q.2.2.1]; omega))])
          subst this
          conv => whnf
          refine ⟨by kernel_rfl, ?_⟩
          conv => whnf
          exact fin0 rfl trivial
        have h3 : xx = ((q1 - 1 : Nat) : Int) := of_decide_eq_true (by simpa using h3)
        subst h3
        conv => whnf
        refine call0 (empty_good xa) ?_
        by_cases hz : xa = zeroA
        · rw [decide_eq_true hz]
          obtain ⟨k', a', e1, e2, e3, e4, e5, e6, e7⟩ := hcon (z1, max z2 q2 + 1) (by rw [hno, if_pos ⟨by rw [hak]; omega, by omega, by omega, hz⟩])
          subst e6
          conv => whnf
          refine ⟨by kernel_rfl, ?_⟩
          conv => whnf
          refine ⟨⟨⟩, by dsimp only; rw [hal.1]; omega, ?_⟩
          conv => whnf
          refine ⟨_, r2 _, ?_⟩
          conv => whnf
          refine ⟨⟨⟩, by dsimp only; rw [hal.1]; simp only [List.length_cons, List.length_nil]; omega, ?_⟩
          conv => whnf
          refine ⟨⟨⟩, by dsimp only; rw [hal.2]; omega, ?_⟩
          conv => whnf
          refine ⟨_, r2 _, ?_⟩
          conv => whnf
          refine ⟨⟨⟩, by dsimp only; rw [hal.2]; omega, ?_⟩
          conv => whnf
          refine ⟨_, r1 _, ?_⟩
          conv => whnf
          have hmx : IntKind.i64.wrap ((if ((z2 : Nat) : Int) < ((q2 : Nat) : Int) then ((q2 : Nat) : Int) else ((z2 : Nat) : Int)) + 1) = ((max z2 q2 + 1 : Nat) : Int) := by
            split
            · rw [wr (by omega) (by omega)]; omega
            · rw [wr (by omega) (by omega)]; omega
          refine ⟨⟨⟩, by dsimp only; rw [hal.2]; simp only [List.length_cons, List.length_nil]; omega, ?_⟩
          conv => whnf
          refine ⟨by kernel_rfl, ?_⟩
          conv => whnf
          rw [hw]
          refine ⟨l.length - (k + 1), by omega, k + 1, a', rfl, e2, e3, e4, e5, ?_⟩
          rw [e7, (hap _).1, (hap _).2]
          dsimp only
          rw [hmx]
        · rw [decide_eq_false hz]
          have := hnone (by rw [hno, if_neg (fun q => hz q.2.2.2)])
          subst this
          conv => whnf
          refine ⟨by kernel_rfl, ?_⟩
          conv => whnf
          exact fin0 rfl trivial
      · rw [ha]
        have := hnone (by unfold nodS; rw [if_neg (by dsimp only; omega), if_neg (by dsimp only; omega), if_neg (by dsimp only; omega)])
        subst this
        conv => whnf
        exact fin0 rfl trivial
    · have h := of_decide_eq_false h
      have hd : l.drop k = [] := List.drop_eq_nil_iff.2 (by omega)
      rw [hd, fromsGo] at hU
      subst hU
      conv => whnf
      exact fin0 rfl trivial
end Go.PV
namespace Go.PV
open Go Go.Proofs
set_option maxRecDepth 100000
theorem fmlOk_some {l : List Nod} {b : List (Nat × Nat)} (h : fromsS l = some b) (h1 : 1 ≤ l.length) (h2 : l.length ≤ 40) (hk : l.length - 1 < b.length) : fmlOk l = decide ((b[l.length - 1]).1 = 0 ∧ (b[l.length - 1]).2 ≤ 12) := by
  have hl : b.length = l.length := by have := (fromsGo_len h).1; simpa using this
  unfold fmlOk
  rw [decide_eq_true ⟨h1, h2⟩, Bool.true_and, h]
  dsimp only
  rw [List.getLast?_eq_getElem?, hl, List.getElem?_eq_getElem hk]
theorem fcheck_good (l : List Nod) (hl : l.length ≤ 1000000) (hb : ∀ o ∈ l, nodB o) : Good Tryz.prog 29 [.sl 5 (nodV l)] [] [.int .i64 (if fmlOk l then 0 else 17)] [] := by
  have hll : (nodV l).length = l.length := List.length_map _
  refine good_of hP Tryz.func29 (by kernel_rfl) (lv := [0, 2, 3, 4, 5, 6, 14, 38]) (js := []) ⟨rfl, rfl, rfl, rfl, rfl, rfl, _, rfl, ?_⟩
  conv => whnf
  refine branch_of (fun h1 => ?_) (fun h1 => ?_)
  · have h1 := of_decide_eq_true h1
    rw [hll] at h1
    have e : fmlOk l = false := by unfold fmlOk; rw [decide_eq_false (by omega), Bool.false_and]
    rw [e]
    conv => whnf
    exact fin0 rfl trivial
  have h1 := of_decide_eq_false h1
  rw [hll] at h1
  conv => whnf
  refine branch_of (fun h2 => ?_) (fun h2 => ?_)
  · have h2 := of_decide_eq_true h2
    rw [hll] at h2
    have e : fmlOk l = false := by unfold fmlOk; rw [decide_eq_false (by omega), Bool.false_and]
    rw [e]
    conv => whnf
    exact fin0 rfl trivial
  have h2 := of_decide_eq_false h2
  rw [hll] at h2
  conv => whnf
  refine call0 (froms_good l hl hb) ?_
  cases hU : fromsS l with
  | none =>
    have e : fmlOk l = false := by unfold fmlOk; rw [hU]; simp
    rw [e]
    conv => whnf
    exact fin0 rfl trivial
  | some b =>
    have hbl : b.length = l.length := by have := (fromsGo_len hU).1; simpa using this
    have hk : l.length - 1 < b.length := by omega
    have e := fmlOk_some hU (by omega) (by omega) hk
    have hw : IntKind.i64.wrap (((nodV l).length : Int) - 1) = ((l.length - 1 : Nat) : Int) := by rw [hll, wr (by omega) (by omega)]; omega
    have hrow : ∀ g : Nat × Nat → List V, (0 : Int) ≤ ((l.length - 1 : Nat) : Int) ∧ (b.map g)[((l.length - 1 : Nat) : Int).toNat]? = some (g b[l.length - 1]) := fun g => ⟨by omega, by rw [Int.toNat_natCast, List.getElem?_map, List.getElem?_eq_getElem hk]; rfl⟩
    generalize b[l.length - 1] = q at *
    obtain ⟨q1, q2⟩ := q
    dsimp only at e
    conv => whnf
    rw [hw]
    refine ⟨_, hrow _, ?_⟩
    conv => whnf
    refine branch_of (fun h3 => ?_) (fun h3 => ?_)
    · have h3 : ¬ ((q1 : Nat) : Int) = 0 := of_decide_eq_false (by simpa using h3)
      rw [e, show decide (q1 = 0 ∧ q2 ≤ 12) = false from decide_eq_false (by omega)]
      conv => whnf
      exact fin0 rfl trivial
    have h3 : ((q1 : Nat) : Int) = 0 := of_decide_eq_true (by simpa using h3)
    conv => whnf
    rw [hw]
    refine ⟨_, hrow _, ?_⟩
    conv => whnf
    refine branch_of (fun h4 => ?_) (fun h4 => ?_)
    · have h4 : (12 : Int) < ((q2 : Nat) : Int) := of_decide_eq_true h4
      rw [e, show decide (q1 = 0 ∧ q2 ≤ 12) = false from decide_eq_false (by omega)]
      conv => whnf
      exact fin0 rfl trivial
    have h4 : ¬ (12 : Int) < ((q2 : Nat) : Int) := of_decide_eq_false h4
    rw [e, show decide (q1 = 0 ∧ q2 ≤ 12) = true from decide_eq_true (by omega)]
    conv => whnf
    exact fin0 rfl trivial
theorem ffrom_good (l : List Nod) (i : Int) (hl : l.length ≤ 1000000) (hb : ∀ o ∈ l, nodB o) : Good Tryz.prog 27 [.sl 5 (nodV l), .int .i64 i] [] [.int .i64 (fromN l i)] [] := by
  have hll : (nodV l).length = l.length := List.length_map _
  refine good_of hP Tryz.func27 (by kernel_rfl) (lv := [0, 1, 4, 5, 20]) (js := []) ⟨rfl, rfl, rfl, rfl, rfl, rfl, _, rfl, ?_⟩
  unfold fromN
  conv => whnf
  refine call0 (fcheck_good l hl hb) ?_
  cases hk : fmlOk l with
  | false =>
    rw [Bool.false_and]
    conv => whnf
    exact fin0 rfl trivial
  | true =>
  rw [Bool.true_and]
  obtain ⟨f1, f2, b, hU⟩ := fmlOk_froms hk
  conv => whnf
  refine branch_of (fun h1 => ?_) (fun h1 => ?_)
  · have h1 := of_decide_eq_true h1
    rw [show decide (0 ≤ i ∧ i < l.length) = false from decide_eq_false (by omega)]
    conv => whnf
    exact fin0 rfl trivial
  have h1 := of_decide_eq_false h1
  conv => whnf
  refine branch_of (fun h2 => ?_) (fun h2 => ?_)
  · have h2 := of_decide_eq_true h2
    rw [hll] at h2
    rw [show decide (0 ≤ i ∧ i < l.length) = false from decide_eq_false (by omega)]
    conv => whnf
    exact fin0 rfl trivial
  have h2 := of_decide_eq_false h2
  rw [hll] at h2
  rw [show decide (0 ≤ i ∧ i < l.length) = true from decide_eq_true (by omega), if_pos rfl, hU]
  dsimp only
  obtain ⟨n, rfl⟩ : ∃ n : Nat, i = n := ⟨i.toNat, by omega⟩
  have hbl : b.length = l.length := by have := (fromsGo_len hU).1; simpa using this
  have hn : n < b.length := by omega
  rw [Int.toNat_natCast, List.getElem?_eq_getElem hn]
  have hrow : (0 : Int) ≤ (n : Int) ∧ (frV b)[((n : Nat) : Int).toNat]? = some [.int .i64 (b[n]).1] := ⟨by omega, by rw [Int.toNat_natCast, List.getElem?_map, List.getElem?_eq_getElem hn]; rfl⟩
  conv => whnf
  refine call0 (froms_good l hl hb) ?_
  rw [hU]
  conv => whnf
  refine ⟨_, hrow, ?_⟩
  conv => whnf
  exact fin0 rfl trivial
theorem limited_good (s : Bs) (h : s.length ≤ 1000000) : Good Tryz.prog 82 [.str s] [] [.str (if 20000 < s.length then [] else s), .int .i64 (if 20000 < s.length then 2 else 0)] [] := by
  refine good_of hP Tryz.func82 (by kernel_rfl) (lv := [0, 2, 3, 6]) (js := []) ⟨rfl, rfl, rfl, rfl, rfl, rfl, _, rfl, ?_⟩
  conv => whnf
  refine branch_of (fun h1 => ?_) (fun h1 => ?_)
  · have h1 := of_decide_eq_true h1
    rw [if_pos (by omega), if_pos (by omega)]
    conv => whnf
    exact fin0 rfl trivial
  · have h1 := of_decide_eq_false h1
    rw [if_neg (by omega), if_neg (by omega)]
    conv => whnf
    exact fin0 rfl trivial
theorem ftx_good (l : List Nod) (hl : l.length ≤ 1000000) (hb : ∀ o ∈ l, nodB o) (hk : fmlOk l = true) : Good Tryz.prog 83 [.sl 5 (nodV l)] [] [.str (fmlT l)] [] := by
  have hll : (nodV l).length = l.length := List.length_map _
  obtain ⟨f1, f2, b, hU⟩ := fmlOk_froms hk
  refine good_of hP Tryz.func83 (by kernel_rfl) (lv := [0, 2, 3, 5, 6, 7, 8, 9, 10, 15, 36, 44]) (js := [100002]) ⟨rfl, rfl, rfl, rfl, rfl, rfl, _, rfl, ?_⟩
  conv => whnf
  refine loop_of hP [0, 2, 3, 5, 6, 7, 8, 9, 10, 15, 36, 44] [100002] [0, 3, 7, 8, 9] [67] [.slot 3 1] (fun m st => ∃ k : Nat, m = l.length - k ∧ k ≤ l.length ∧
    st = ⟨[(0, .sl 5 (nodV l)), (3, .own 67 0), (7, .sl 5 (nodV l)), (8, .int .i64 l.length), (9, .int .i64 k)], [(67, .arr 0 false 1 (strV (txGo [] (l.take k))))]⟩) l.length ?_ ?_
  · conv => whnf
    exact ⟨0, rfl, Nat.zero_le _, by rw [← hll]; rfl⟩
  · rintro m st ⟨k, rfl, hk1, rfl⟩
    have htl : (txGo [] (l.take k)).length = k := by rw [(txGo_len _ _).1, List.length_take]; simp; omega
    have htb := tx_b hk k
    have hsl : (strV (txGo [] (l.take k))).length = k := by rw [List.length_map, htl]
    conv => whnf
    refine branch_of (fun h => ?_) (fun h => ?_)
    · have h := of_decide_eq_true h
      have hk' : k < l.length := by omega
      have hrow := idxM (f := Nod.c) hk' rfl
      have hbk := hb _ (List.getElem_mem hk')
      have hstep := txGo_step l hk'
      obtain ⟨p, hp, _, hpl, hpB⟩ := froms_at hU hk'
      have hcs := nod_cases hpB hp
      rw [hpl] at hcs
      have hnb := tx_b hk (k + 1)
      rw [hstep] at hnb
      have hnl := hnb _ (List.mem_append_right _ (List.mem_singleton_self _))
      have hw : IntKind.i64.wrap ((k : Int) + 1) = ((k + 1 : Nat) : Int) := by rw [wr (by omega) (by omega)]; rfl
      generalize hx : l[k] = x at *
      generalize htx : txGo [] (l.take k) = tx at *
      obtain ⟨xk, xa, xx, xy⟩ := x
      conv => whnf
      refine ⟨_, hrow, ?_⟩
      conv => whnf
      refine seq_of hP [0, 2, 3, 5, 6, 7, 8, 9, 10, 15, 36, 44] [100002] [0, 3, 6, 7, 8, 9] [67] [] (fun st => st = ⟨[(0, .sl 5 (nodV l)), (3, .own 67 0), (6, .str (nodT tx ⟨xk, xa, xx, xy⟩)), (7, .sl 5 (nodV l)), (8, .int .i64 l.length), (9, .int .i64 k)], [(67, .arr 0 false 1 (strV tx))]⟩) ?_ ?_
      · conv => whnf
        refine call0 (arms_good xk) ?_
        rcases hcs with ⟨ha, h1, h2, h3, _⟩ | ⟨ha, h1, h2, h3, h4, _⟩ | ⟨ha, h1, h2, h3, q, s, h4, h5, h6, h7, _, _⟩
        · rw [ha]
          conv => whnf
          refine call0 (atomText_good xa hbk) ?_
          rw [h3, if_pos rfl]
          conv => whnf
          have e : nodT tx ⟨xk, xa, xx, xy⟩ = atomT xa := by unfold nodT; rw [if_pos ha]
          rw [e]
        · dsimp only at h2
          subst h2
          have hx1 : IntKind.i64.wrap ((k : Int) - 1) = ((k - 1 : Nat) : Int) := by rw [wr (by omega) (by omega)]; omega
          have e0 : ((k : Int) - 1) = ((k - 1 : Nat) : Int) := by omega
          have hk1l : k - 1 < tx.length := by omega
          have hin := htb _ (List.getElem_mem hk1l)
          have e1 : nodT tx ⟨xk, xa, (k : Int) - 1, xy⟩ = wordT xk ++ [32] ++ tx[k - 1] := by
            unfold nodT
            dsimp only at ha ⊢
            rw [if_neg (by omega), if_pos ha, e0, Int.toNat_natCast, List.getD_eq_getElem?_getD, List.getElem?_eq_getElem hk1l]
            rfl
          have r1 : (strV tx)[((k - 1 : Nat) : Int).toNat]? = some [.str tx[k - 1]] := by rw [Int.toNat_natCast, List.getElem?_map, List.getElem?_eq_getElem hk1l]; rfl
          rw [ha, e1, e0]
          rw [e0] at hrow hx
          have hkk : xk = 2 ∨ xk = 5 ∨ xk = 6 ∨ xk = 7 := by dsimp only at ha; rcases arms_cases xk with q | q | q | q <;> omega
          rcases hkk with rfl | rfl | rfl | rfl
          all_goals
            conv => whnf
            refine call0 (ones_good) ?_
            conv => whnf
            refine ⟨⟨⟩, by decide, ?_⟩
            conv => whnf
            refine ⟨⟨⟩, by dsimp only; rw [hsl]; omega, ?_⟩
            conv => whnf
            refine ⟨_, r1, ?_⟩
            conv => whnf
            refine ⟨⟨⟩, by show _ + (tx[k - 1]).length ≤ 9223372036854775807; simp only [List.length_append, List.length_cons, List.length_nil]; omega, ?_⟩
            conv => whnf
            refine ⟨by kernel_rfl, ?_⟩
            conv => whnf
            rfl
        · dsimp only at h2 h7
          subst h2
          have e0 : ((k : Int) - 1) = ((k - 1 : Nat) : Int) := by omega
          have e0' : ((q.1 : Int) - 1) = ((q.1 - 1 : Nat) : Int) := by omega
          have hk1l : k - 1 < tx.length := by omega
          have hq1l : q.1 - 1 < tx.length := by omega
          have hin := htb _ (List.getElem_mem hk1l)
          have hin2 := htb _ (List.getElem_mem hq1l)
          have r1 : (strV tx)[((k - 1 : Nat) : Int).toNat]? = some [.str tx[k - 1]] := by rw [Int.toNat_natCast, List.getElem?_map, List.getElem?_eq_getElem hk1l]; rfl
          have r2 : (strV tx)[((q.1 - 1 : Nat) : Int).toNat]? = some [.str tx[q.1 - 1]] := by rw [Int.toNat_natCast, List.getElem?_map, List.getElem?_eq_getElem hq1l]; rfl
          subst h7
          have e1 : nodT tx ⟨xk, xa, (q.1 : Int) - 1, (k : Int) - 1⟩ = [40] ++ tx[q.1 - 1] ++ [32] ++ wordT xk ++ [32] ++ tx[k - 1] ++ [41] := by
            unfold nodT
            dsimp only at ha ⊢
            rw [if_neg (by omega), if_neg (by omega), e0, e0', Int.toNat_natCast, Int.toNat_natCast, List.getD_eq_getElem?_getD, List.getD_eq_getElem?_getD, List.getElem?_eq_getElem hk1l, List.getElem?_eq_getElem hq1l]
            rfl
          rw [ha, e1, e0, e0']
          rw [e0, e0'] at hrow hx
          have hq2 : q.1 - 1 < k := by omega
          generalize q.1 - 1 = w at *
          generalize tx[w] = t1 at *
          generalize tx[k - 1] = t2 at *
          have hkk : xk = 3 ∨ xk = 4 ∨ xk = 8 := by dsimp only at ha; rcases arms_cases xk with q | q | q | q <;> omega
          rcases hkk with rfl | rfl | rfl
          all_goals
            conv => whnf
            refine ⟨⟨⟩, by dsimp only; rw [hsl]; omega, ?_⟩
            conv => whnf
            refine ⟨_, r2, ?_⟩
            conv => whnf
            refine ⟨⟨⟩, by show 1 + t1.length ≤ 9223372036854775807; omega, ?_⟩
            conv => whnf
            refine ⟨⟨⟩, by show ([40] ++ t1 : Bs).length + 1 ≤ 9223372036854775807; simp only [List.length_append, List.length_cons, List.length_nil]; omega, ?_⟩
            conv => whnf
            refine call0 (twos_good) ?_
            conv => whnf
            refine ⟨⟨⟩, by show ([40] ++ t1 ++ [32] : Bs).length + _ ≤ 9223372036854775807; simp only [List.length_append, List.length_cons, List.length_nil]; omega, ?_⟩
            conv => whnf
            refine ⟨⟨⟩, by show ([40] ++ t1 ++ [32] ++ _ : Bs).length + 1 ≤ 9223372036854775807; simp only [List.length_append, List.length_cons, List.length_nil]; omega, ?_⟩
            conv => whnf
            refine ⟨⟨⟩, by dsimp only; rw [hsl]; omega, ?_⟩
            conv => whnf
            refine ⟨_, r1, ?_⟩
            conv => whnf
            refine ⟨⟨⟩, by show ([40] ++ t1 ++ [32] ++ _ ++ [32] : Bs).length + t2.length ≤ 9223372036854775807; simp only [List.length_append, List.length_cons, List.length_nil]; omega, ?_⟩
            conv => whnf
            refine ⟨⟨⟩, by show ([40] ++ t1 ++ [32] ++ _ ++ [32] ++ t2 : Bs).length + 1 ≤ 9223372036854775807; simp only [List.length_append, List.length_cons, List.length_nil]; omega, ?_⟩
            conv => whnf
            refine ⟨by kernel_rfl, ?_⟩
            conv => whnf
            rfl
      · rintro st rfl
        conv => whnf
        refine ⟨⟨⟩, by dsimp only; rw [hsl]; simp only [List.length_cons, List.length_nil]; omega, ?_⟩
        conv => whnf
        rw [hw]
        refine ⟨l.length - (k + 1), by omega, k + 1, rfl, by omega, ?_⟩
        rw [hstep, show strV (tx ++ [nodT tx ⟨xk, xa, xx, xy⟩]) = strV tx ++ [[.str (nodT tx ⟨xk, xa, xx, xy⟩)]] from List.map_append]
    · have h := of_decide_eq_false h
      have e : l.take k = l := List.take_of_length_le (by omega)
      rw [e] at hsl htl ⊢
      have hkl : k - 1 < (txGo [] l).length := by omega
      have hw : IntKind.i64.wrap (((nodV l).length : Int) - 1) = ((k - 1 : Nat) : Int) := by rw [hll, wr (by omega) (by omega)]; omega
      have e2 : fmlT l = (txGo [] l)[k - 1] := by
        unfold fmlT
        rw [List.getLastD_eq_getLast?, List.getLast?_eq_getElem?, htl, List.getElem?_eq_getElem hkl]; rfl
      have r1 : (strV (txGo [] l))[((k - 1 : Nat) : Int).toNat]? = some [.str (txGo [] l)[k - 1]] := by rw [Int.toNat_natCast, List.getElem?_map, List.getElem?_eq_getElem hkl]; rfl
      rw [e2]
      conv => whnf
      rw [hw]
      refine ⟨⟨⟩, by dsimp only; rw [hsl]; omega, ?_⟩
      conv => whnf
      refine ⟨_, r1, ?_⟩
      conv => whnf
      exact fin0 rfl trivial
end Go.PV
namespace Go.PV
open Go Go.Proofs
set_option maxRecDepth 100000
theorem rword_good (r : Rd) (t : Bs) (hl : r.l.length ≤ 1000000) : Good Tryz.prog 153 [.ptr 0 0 0, .str t] [r.ob] [.bool (r.see 1 t)] [(r.word 1 t).ob] := by
  refine good_of hP Tryz.func153 (by kernel_rfl) (lv := [0, 1, 4, 5, 9]) (js := []) ⟨rfl, rfl, rfl, rfl, rfl, rfl, _, rfl, ?_⟩
  unfold Rd.word
  conv => whnf
  refine callN [(0, 0)] (see_good r 1 t hl) ?_ 
  conv => whnf
  refine ⟨⟨⟩, rfl, ?_⟩
  cases h : r.see 1 t with
  | false =>
    conv => whnf
    refine ⟨[], rfl, ?_⟩
    conv => whnf
    exact ⟨⟨⟩, rfl, trivial⟩
  | true =>
    have := cur_lt' h
    rw [if_pos rfl]
    have hw : IntKind.i64.wrap ((r.i : Int) + 1) = (r.i + 1 : Nat) := by rw [wr (by omega) (by omega)]; rfl
    conv => whnf
    rw [hw]
    refine ⟨[], rfl, ?_⟩
    conv => whnf
    exact ⟨⟨⟩, rfl, trivial⟩
theorem ask_good (r : Rd) (t : Bs) (hl : r.l.length ≤ 1000000) : Good Tryz.prog 92 [.ptr 0 0 0, .str t] [r.ob] [] [(r.want 1 t).ob] := by
  refine good_of hP Tryz.func92 (by kernel_rfl) (lv := [0, 1, 11]) (js := []) ⟨rfl, rfl, rfl, rfl, rfl, rfl, _, rfl, ?_⟩
  unfold Rd.want
  conv => whnf
  refine callN [(0, 0)] (open_good r) ?_ 
  conv => whnf
  refine ⟨⟨⟩, rfl, ?_⟩
  cases ho : r.isOpen with
  | false =>
    have : r.see 1 t = false := by simp [Rd.see, ho]
    rw [this]
    conv => whnf
    refine ⟨[], rfl, ?_⟩
    conv => whnf
    exact ⟨⟨⟩, rfl, trivial⟩
  | true =>
    conv => whnf
    refine callN [(0, 0)] (rword_good r t hl) ?_ 
    conv => whnf
    refine ⟨⟨⟩, rfl, ?_⟩
    unfold Rd.word
    cases hs : r.see 1 t with
    | true =>
      rw [if_pos rfl, if_pos rfl]
      conv => whnf
      refine ⟨[], rfl, ?_⟩
      conv => whnf
      exact ⟨⟨⟩, rfl, trivial⟩
    | false =>
      conv => whnf
      refine ⟨[], rfl, ?_⟩
      conv => whnf
      exact ⟨⟨⟩, rfl, trivial⟩
end Go.PV
namespace Go.PV
open Go Go.Proofs
set_option maxRecDepth 100000
abbrev rdsO : Ob := .box 0 [.ptr 1 0 0, .own 2 0, .own 3 0]
abbrev frmV (st : List Frm) : List (List V) := st.reverse.map fun f => [.int .i64 f.1, .int .i64 f.2]
abbrev arrN (l : List Nod) : Ob := .arr 0 false 5 (nodV l)
abbrev arrF (st : List Frm) : Ob := .arr 0 false 2 (frmV st)
theorem word_eq (r : Rd) (k : Int) (s : Bs) : r.word k s = if r.see k s then r.step else r := rfl
theorem words1_good (r : Rd) (l : List Nod) (st : List Frm) (hl : r.l.length ≤ 1000000) : Good Tryz.prog 209 [.ptr 0 0 0, .mp 4 0] [rdsO, r.ob, arrN l, arrF st, .box 0 [.md onesM]] [.int .i64 (Rd.wordsR onesL r).1] [rdsO, (Rd.wordsR onesL r).2.ob, arrN l, arrF st, .box 0 [.md onesM]] := by
  refine good_of hP Tryz.func209 (by kernel_rfl) (lv := [0, 1, 4, 5, 6, 7, 9, 26]) (js := []) ⟨rfl, rfl, rfl, rfl, rfl, rfl, _, rfl, ?_⟩
  generalize hU : Rd.wordsR onesL r = U
  conv => whnf
  refine loop_of hP [0, 1, 4, 5, 6, 7, 9, 26] [] [0, 1, 5] [0, 1, 2, 3, 4] [] (fun m s => ∃ j : Nat, m = 7 - j ∧ j ≤ 7 ∧ Rd.wordsR (onesL.filter fun p => decide (((2 + j : Nat) : Int) ≤ p.1)) r = U ∧
    s = ⟨[(0, .ptr 0 0 0), (1, .mp 4 0), (5, .int .i64 ((2 + j : Nat) : Int))], [(0, rdsO), (1, r.ob), (2, arrN l), (3, arrF st), (4, .box 0 [.md onesM])]⟩) 7 ?_ ?_
  · conv => whnf
    exact ⟨0, rfl, by omega, hU, rfl⟩
  · rintro m s ⟨j, rfl, hj, hU, rfl⟩
    rcases j with _ | _ | _ | _ | _ | _ | _ | _ | j
    · have hU : (if r.see 1 [110, 111, 116] then ((2 : Int), r.step) else Rd.wordsR (onesL.filter fun p => decide (((2 + 1 : Nat) : Int) ≤ p.1)) r) = U := hU
      conv => whnf
      refine callN [(1, 0)] (rword_good r [110, 111, 116] hl) ?_ 
      conv => whnf
      refine ⟨⟨⟩, rfl, ?_⟩
      rw [word_eq]
      cases hs : r.see 1 [110, 111, 116] with
      | true =>
        rw [hs, if_pos rfl] at hU
        subst hU
        conv => whnf
        refine ⟨[], rfl, ?_⟩
        conv => whnf
        refine ⟨⟨⟩, rfl, ?_⟩
        conv => whnf
        refine ⟨⟨⟩, rfl, ?_⟩
        conv => whnf
        refine ⟨⟨⟩, rfl, ?_⟩
        conv => whnf
        refine ⟨⟨⟩, rfl, ?_⟩
        conv => whnf
        exact ⟨⟨⟩, rfl, trivial⟩
      | false =>
        rw [hs, if_neg (by simp)] at hU
        conv => whnf
        exact ⟨6, by omega, 1, rfl, by omega, hU, rfl⟩
    · conv => whnf
      exact ⟨5, by omega, 2, rfl, by omega, hU, rfl⟩
    · conv => whnf
      exact ⟨4, by omega, 3, rfl, by omega, hU, rfl⟩
    · have hU : (if r.see 1 [98, 101, 102, 111, 114, 101] then ((5 : Int), r.step) else Rd.wordsR (onesL.filter fun p => decide (((2 + 4 : Nat) : Int) ≤ p.1)) r) = U := hU
      conv => whnf
      refine callN [(1, 0)] (rword_good r [98, 101, 102, 111, 114, 101] hl) ?_ 
      conv => whnf
      refine ⟨⟨⟩, rfl, ?_⟩
      rw [word_eq]
      cases hs : r.see 1 [98, 101, 102, 111, 114, 101] with
      | true =>
        rw [hs, if_pos rfl] at hU
        subst hU
        conv => whnf
        refine ⟨[], rfl, ?_⟩
        conv => whnf
        refine ⟨⟨⟩, rfl, ?_⟩
        conv => whnf
        refine ⟨⟨⟩, rfl, ?_⟩
        conv => whnf
        refine ⟨⟨⟩, rfl, ?_⟩
        conv => whnf
        refine ⟨⟨⟩, rfl, ?_⟩
        conv => whnf
        exact ⟨⟨⟩, rfl, trivial⟩
      | false =>
        rw [hs, if_neg (by simp)] at hU
        conv => whnf
        exact ⟨3, by omega, 4, rfl, by omega, hU, rfl⟩
    · have hU : (if r.see 1 [111, 110, 99, 101] then ((6 : Int), r.step) else Rd.wordsR (onesL.filter fun p => decide (((2 + 5 : Nat) : Int) ≤ p.1)) r) = U := hU
      conv => whnf
      refine callN [(1, 0)] (rword_good r [111, 110, 99, 101] hl) ?_ 
      conv => whnf
      refine ⟨⟨⟩, rfl, ?_⟩
      rw [word_eq]
      cases hs : r.see 1 [111, 110, 99, 101] with
      | true =>
        rw [hs, if_pos rfl] at hU
        subst hU
        conv => whnf
        refine ⟨[], rfl, ?_⟩
        conv => whnf
        refine ⟨⟨⟩, rfl, ?_⟩
        conv => whnf
        refine ⟨⟨⟩, rfl, ?_⟩
        conv => whnf
        refine ⟨⟨⟩, rfl, ?_⟩
        conv => whnf
        refine ⟨⟨⟩, rfl, ?_⟩
        conv => whnf
        exact ⟨⟨⟩, rfl, trivial⟩
      | false =>
        rw [hs, if_neg (by simp)] at hU
        conv => whnf
        exact ⟨2, by omega, 5, rfl, by omega, hU, rfl⟩
    · have hU : (if r.see 1 [97, 108, 119, 97, 121, 115] then ((7 : Int), r.step) else Rd.wordsR (onesL.filter fun p => decide (((2 + 6 : Nat) : Int) ≤ p.1)) r) = U := hU
      conv => whnf
      refine callN [(1, 0)] (rword_good r [97, 108, 119, 97, 121, 115] hl) ?_ 
      conv => whnf
      refine ⟨⟨⟩, rfl, ?_⟩
      rw [word_eq]
      cases hs : r.see 1 [97, 108, 119, 97, 121, 115] with
      | true =>
        rw [hs, if_pos rfl] at hU
        subst hU
        conv => whnf
        refine ⟨[], rfl, ?_⟩
        conv => whnf
        refine ⟨⟨⟩, rfl, ?_⟩
        conv => whnf
        refine ⟨⟨⟩, rfl, ?_⟩
        conv => whnf
        refine ⟨⟨⟩, rfl, ?_⟩
        conv => whnf
        refine ⟨⟨⟩, rfl, ?_⟩
        conv => whnf
        exact ⟨⟨⟩, rfl, trivial⟩
      | false =>
        rw [hs, if_neg (by simp)] at hU
        conv => whnf
        exact ⟨1, by omega, 6, rfl, by omega, hU, rfl⟩
    · conv => whnf
      exact ⟨0, by omega, 7, rfl, by omega, hU, rfl⟩
    · have hU : ((0 : Int), r) = U := hU
      subst hU
      conv => whnf
      refine ⟨[], rfl, ?_⟩
      conv => whnf
      refine ⟨⟨⟩, rfl, ?_⟩
      conv => whnf
      refine ⟨⟨⟩, rfl, ?_⟩
      conv => whnf
      refine ⟨⟨⟩, rfl, ?_⟩
      conv => whnf
      refine ⟨⟨⟩, rfl, ?_⟩
      conv => whnf
      exact ⟨⟨⟩, rfl, trivial⟩
    · omega
theorem words2_good (r : Rd) (l : List Nod) (st : List Frm) (hl : r.l.length ≤ 1000000) : Good Tryz.prog 209 [.ptr 0 0 0, .mp 4 0] [rdsO, r.ob, arrN l, arrF st, .box 0 [.md twosM]] [.int .i64 (Rd.wordsR twosL r).1] [rdsO, (Rd.wordsR twosL r).2.ob, arrN l, arrF st, .box 0 [.md twosM]] := by
  refine good_of hP Tryz.func209 (by kernel_rfl) (lv := [0, 1, 4, 5, 6, 7, 9, 26]) (js := []) ⟨rfl, rfl, rfl, rfl, rfl, rfl, _, rfl, ?_⟩
  generalize hU : Rd.wordsR twosL r = U
  conv => whnf
  refine loop_of hP [0, 1, 4, 5, 6, 7, 9, 26] [] [0, 1, 5] [0, 1, 2, 3, 4] [] (fun m s => ∃ j : Nat, m = 7 - j ∧ j ≤ 7 ∧ Rd.wordsR (twosL.filter fun p => decide (((2 + j : Nat) : Int) ≤ p.1)) r = U ∧
    s = ⟨[(0, .ptr 0 0 0), (1, .mp 4 0), (5, .int .i64 ((2 + j : Nat) : Int))], [(0, rdsO), (1, r.ob), (2, arrN l), (3, arrF st), (4, .box 0 [.md twosM])]⟩) 7 ?_ ?_
  · conv => whnf
    exact ⟨0, rfl, by omega, hU, rfl⟩
  · rintro m s ⟨j, rfl, hj, hU, rfl⟩
    rcases j with _ | _ | _ | _ | _ | _ | _ | _ | j
    · conv => whnf
      exact ⟨6, by omega, 1, rfl, by omega, hU, rfl⟩
    · have hU : (if r.see 1 [97, 110, 100] then ((3 : Int), r.step) else Rd.wordsR (twosL.filter fun p => decide (((2 + 2 : Nat) : Int) ≤ p.1)) r) = U := hU
      conv => whnf
      refine callN [(1, 0)] (rword_good r [97, 110, 100] hl) ?_ 
      conv => whnf
      refine ⟨⟨⟩, rfl, ?_⟩
      rw [word_eq]
      cases hs : r.see 1 [97, 110, 100] with
      | true =>
        rw [hs, if_pos rfl] at hU
        subst hU
        conv => whnf
        refine ⟨[], rfl, ?_⟩
        conv => whnf
        refine ⟨⟨⟩, rfl, ?_⟩
        conv => whnf
        refine ⟨⟨⟩, rfl, ?_⟩
        conv => whnf
        refine ⟨⟨⟩, rfl, ?_⟩
        conv => whnf
        refine ⟨⟨⟩, rfl, ?_⟩
        conv => whnf
        exact ⟨⟨⟩, rfl, trivial⟩
      | false =>
        rw [hs, if_neg (by simp)] at hU
        conv => whnf
        exact ⟨5, by omega, 2, rfl, by omega, hU, rfl⟩
    · have hU : (if r.see 1 [111, 114] then ((4 : Int), r.step) else Rd.wordsR (twosL.filter fun p => decide (((2 + 3 : Nat) : Int) ≤ p.1)) r) = U := hU
      conv => whnf
      refine callN [(1, 0)] (rword_good r [111, 114] hl) ?_ 
      conv => whnf
      refine ⟨⟨⟩, rfl, ?_⟩
      rw [word_eq]
      cases hs : r.see 1 [111, 114] with
      | true =>
        rw [hs, if_pos rfl] at hU
        subst hU
        conv => whnf
        refine ⟨[], rfl, ?_⟩
        conv => whnf
        refine ⟨⟨⟩, rfl, ?_⟩
        conv => whnf
        refine ⟨⟨⟩, rfl, ?_⟩
        conv => whnf
        refine ⟨⟨⟩, rfl, ?_⟩
        conv => whnf
        refine ⟨⟨⟩, rfl, ?_⟩
        conv => whnf
        exact ⟨⟨⟩, rfl, trivial⟩
      | false =>
        rw [hs, if_neg (by simp)] at hU
        conv => whnf
        exact ⟨4, by omega, 3, rfl, by omega, hU, rfl⟩
    · conv => whnf
      exact ⟨3, by omega, 4, rfl, by omega, hU, rfl⟩
    · conv => whnf
      exact ⟨2, by omega, 5, rfl, by omega, hU, rfl⟩
    · conv => whnf
      exact ⟨1, by omega, 6, rfl, by omega, hU, rfl⟩
    · have hU : (if r.see 1 [115, 105, 110, 99, 101] then ((8 : Int), r.step) else Rd.wordsR (twosL.filter fun p => decide (((2 + 7 : Nat) : Int) ≤ p.1)) r) = U := hU
      conv => whnf
      refine callN [(1, 0)] (rword_good r [115, 105, 110, 99, 101] hl) ?_ 
      conv => whnf
      refine ⟨⟨⟩, rfl, ?_⟩
      rw [word_eq]
      cases hs : r.see 1 [115, 105, 110, 99, 101] with
      | true =>
        rw [hs, if_pos rfl] at hU
        subst hU
        conv => whnf
        refine ⟨[], rfl, ?_⟩
        conv => whnf
        refine ⟨⟨⟩, rfl, ?_⟩
        conv => whnf
        refine ⟨⟨⟩, rfl, ?_⟩
        conv => whnf
        refine ⟨⟨⟩, rfl, ?_⟩
        conv => whnf
        refine ⟨⟨⟩, rfl, ?_⟩
        conv => whnf
        exact ⟨⟨⟩, rfl, trivial⟩
      | false =>
        rw [hs, if_neg (by simp)] at hU
        conv => whnf
        exact ⟨0, by omega, 7, rfl, by omega, hU, rfl⟩
    · have hU : ((0 : Int), r) = U := hU
      subst hU
      conv => whnf
      refine ⟨[], rfl, ?_⟩
      conv => whnf
      refine ⟨⟨⟩, rfl, ?_⟩
      conv => whnf
      refine ⟨⟨⟩, rfl, ?_⟩
      conv => whnf
      refine ⟨⟨⟩, rfl, ?_⟩
      conv => whnf
      refine ⟨⟨⟩, rfl, ?_⟩
      conv => whnf
      exact ⟨⟨⟩, rfl, trivial⟩
    · omega
end Go.PV
namespace Go.PV
open Go
namespace Rd
theorem beg_st : ∀ (f : Nat) (r : Rd) (st : List Frm), (beg f r st).1.length + r.i = st.length + (beg f r st).2.i
  | 0, r, st => rfl
  | f + 1, r, st => by
    unfold beg
    split
    · split
      · have h := beg_st f r.step ((0, 0) :: st)
        have e : r.step.i = r.i + 1 := rfl
        rw [List.length_cons, e] at h; omega
      · rfl
    · rename_i hw
      obtain ⟨e, _⟩ := wordsR_ne hw
      have h := beg_st f (wordsR onesL r).2 (((wordsR onesL r).1, 0) :: st)
      have e2 : (wordsR onesL r).2.i = r.i + 1 := by rw [e]; rfl
      rw [List.length_cons, e2] at h; omega
theorem clo_len : ∀ (st : List Frm) (l : List Nod) (r : Rd), (clo st l r).2.2.1.length + (clo st l r).2.1.length = l.length + st.length
  | [], l, r => rfl
  | (k, a) :: st, l, r => by
    unfold clo
    split
    · split
      · have := clo_len st (l ++ [⟨k, zeroA, (l.length : Int) - 1, 0⟩]) r
        rw [this]; simp; omega
      · split
        · have := clo_len st (l ++ [⟨k, zeroA, a, (l.length : Int) - 1⟩]) (r.want 5 [41])
          rw [this]; simp; omega
        · split
          · rfl
          · rfl
    · rfl
theorem clo_false : ∀ (st : List Frm) (l : List Nod) (r : Rd), (clo st l r).1 = false → (clo st l r).2.2.2.isOpen = true
  | [], l, r, h => by cases h
  | (k, a) :: st, l, r, h => by
    unfold clo at *
    split
    · rename_i ho
      rw [if_pos ho] at h
      split
      · rename_i h1
        rw [if_pos h1] at h
        exact clo_false st _ r h
      · rename_i h1
        rw [if_neg h1] at h
        split
        · rename_i h2
          rw [if_pos h2] at h
          exact clo_false st _ _ h
        · rename_i h2
          rw [if_neg h2] at h
          split
          · rename_i h3
            rw [if_pos h3] at h
            cases h
          · rename_i h3
            obtain ⟨e, _⟩ := wordsR_ne h3
            dsimp only
            rw [e]; exact ho
    · rename_i ho
      rw [if_neg ho] at h
      cases h
theorem clo_b : ∀ (st : List Frm) (l : List Nod) (r : Rd), (∀ o ∈ l, nodB o) → ∀ o ∈ (clo st l r).2.2.1, nodB o
  | [], l, r, h => h
  | (k, a) :: st, l, r, h => by
    have hz : ∀ (x y : Int), ∀ o ∈ l ++ [⟨k, zeroA, x, y⟩], nodB o := fun x y o ho => by
      rcases List.mem_append.1 ho with ho | ho
      · exact h o ho
      · simp at ho; subst ho; exact ⟨Nat.zero_le _, Nat.zero_le _, fun t ht => by cases ht⟩
    unfold clo
    split
    · split
      · exact clo_b st _ r (hz _ _)
      · split
        · exact clo_b st _ _ (hz _ _)
        · split
          · exact h
          · exact h
    · exact h
theorem forG_b : ∀ (f : Nat) (q : Rd) (t : List Frm) (n : List Nod), Iv q → n.length + t.length ≤ q.i → (∀ o ∈ n, nodB o) → (forG f q t n).2.1.length ≤ q.l.length + 1 ∧ ∀ o ∈ (forG f q t n).2.1, nodB o
  | 0, q, t, n, hv, hs, hn => ⟨by have := hv.le; show n.length ≤ _; omega, hn⟩
  | f + 1, q, t, n, hv, hs, hn => by
    have hle := hv.le
    unfold forG
    split
    · rename_i ho
      have hvb := Iv.beg (q.l.length + 1) t hv
      have hbs := beg_st (q.l.length + 1) q t
      have hbl := beg_l (q.l.length + 1) q t
      dsimp only
      generalize beg (q.l.length + 1) q t = b at *
      have hva := hvb.atom
      have hal := atom_l b.2
      have hao := @atom_open b.2
      have has := atom_s b.2
      have hble := hvb.le
      generalize b.2.atom = x at *
      have hxle := hva.le
      have hn2 : ∀ o ∈ n ++ [⟨1, x.1, 0, 0⟩], nodB o := fun o ho => by
        rcases List.mem_append.1 ho with ho | ho
        · exact hn o ho
        · simp at ho; subst ho; exact has
      have hcl := clo_len b.1 (n ++ [⟨1, x.1, 0, 0⟩]) x.2
      have hco := @clo_open b.1 (n ++ [⟨1, x.1, 0, 0⟩]) x.2
      have hcf := clo_false b.1 (n ++ [⟨1, x.1, 0, 0⟩]) x.2
      have hcll := clo_l b.1 (n ++ [⟨1, x.1, 0, 0⟩]) x.2
      have hcv := Iv.clo b.1 (n ++ [⟨1, x.1, 0, 0⟩]) hva
      have hcb := clo_b b.1 (n ++ [⟨1, x.1, 0, 0⟩]) x.2 hn2
      rw [List.length_append, List.length_cons, List.length_nil] at hcl
      generalize clo b.1 (n ++ [⟨1, x.1, 0, 0⟩]) x.2 = c at *
      rw [hbl.1] at hble hal
      rw [hal.1] at hxle hcll
      cases hc : c.1 with
      | true =>
        rw [if_pos rfl]
        exact ⟨by dsimp only; omega, hcb⟩
      | false =>
        rw [if_neg (by simp)]
        have hup := (hao (hco (hcf hc))).2.2.1
        have := forG_b f c.2.2.2 c.2.1 c.2.2.1 hcv (by omega) hcb
        rw [hcll.1] at this
        exact this
    · exact ⟨by show n.length ≤ _; omega, hn⟩
theorem formula_b {r : Rd} (hv : Iv r) : r.formula.2.1.length ≤ r.l.length + 1 ∧ ∀ o ∈ r.formula.2.1, nodB o := forG_b _ _ _ _ hv (Nat.zero_le _) (fun o ho => by cases ho)
end Rd
end Go.PV
