/- Part of the proof of LexJoin. -/
import Derived.Test.YtefolkppcdjbpaaDoorLex3
import Derived.Test.YtefolkppcdjbpaaDoorPvT3
namespace Go.PV
open Go Go.Proofs
set_option maxRecDepth 100000
theorem joinTok_good (l : List Tok) (h1 : l.length ≤ 1000000) (h2 : (joinS l).length ≤ 1000000) : Good Tryd.prog 8 [.sl 4 (toksV l)] [] [.str (joinS l)] [] := by
  refine good_of hP Tryd.func8 (by kernel_rfl) (lv := [0, 2, 3, 5, 6, 7, 8, 9]) (js := []) ⟨rfl, rfl, rfl, rfl, rfl, rfl, _, rfl, ?_⟩
  conv => whnf
  refine loop_of hP [0, 2, 3, 5, 6, 7, 8, 9] [] [0, 2, 3, 6, 7, 8] [67] [.slot 3 1] (fun n st => ∃ k : Nat, n = l.length - k ∧ k ≤ l.length ∧ st = ⟨[(0, .sl 4 (toksV l)), (2, .str []), (3, .own 67 0), (6, .sl 4 (toksV l)), (7, .int .i64 l.length), (8, .int .i64 k)], [(67, .arr 0 false 1 ((l.take k).map fun t => [.str t.t]))]⟩) l.length ?_ ?_
  · conv => whnf
    exact ⟨0, rfl, Nat.zero_le _, by rw [← List.length_map (f := Tok.c)]; rfl⟩
  · rintro n st ⟨k, rfl, hk, rfl⟩
    conv => whnf
    refine branch_of (fun h => ?_) (fun h => ?_)
    · have h := of_decide_eq_true h
      have hk' : k < l.length := by omega
      conv => whnf
      refine ⟨Tok.c l[k], idxM hk' rfl, ?_⟩
      conv => whnf
      refine ⟨⟨⟩, by dsimp only; simp only [List.length_map, List.length_take, List.length_cons, List.length_nil]; omega, ?_⟩
      conv => whnf
      refine ⟨l.length - (k + 1), by omega, k + 1, rfl, by omega, ?_⟩
      rw [wr (by omega) (by omega), map_snoc _ l hk']; rfl
    · have h := of_decide_eq_false h
      have : k = l.length := by omega
      subst this
      have e : ((l.take l.length).map fun t => [V.str t.t]) = (l.map Tok.t).map fun x => [V.str x] := by rw [List.take_length, List.map_map]; rfl
      rw [e]
      conv => whnf
      refine call0 (join_good (l.map Tok.t) [32] (by simp; omega) (by have := h2; unfold joinS at this; omega)) ?_
      conv => whnf
      exact fin0 rfl trivial
theorem wk1 : toksR [112, 40, 88, 44, 45, 49, 41] = [⟨1, [112], (1, 1)⟩, ⟨5, [40], (1, 2)⟩, ⟨2, [88], (1, 3)⟩, ⟨5, [44], (1, 4)⟩, ⟨3, [45, 49], (1, 5)⟩, ⟨5, [41], (1, 7)⟩] := by kernel_rfl
theorem wk1p : posR [112, 40, 88, 44, 45, 49, 41] = (0, 0) := by kernel_rfl
theorem wk1e : errR [112, 40, 88, 44, 45, 49, 41] = 0 := by kernel_rfl
theorem wk2 : toksR [97, 10, 32, 63] = [] := by kernel_rfl
theorem wk2p : posR [97, 10, 32, 63] = (2, 2) := by kernel_rfl
theorem wk2e : errR [97, 10, 32, 63] = 6 := by kernel_rfl
theorem wakes_good : Good Tryd.prog 7 [] [] [.bool true] [] := by
  refine good_of hP Tryd.func7 (by kernel_rfl) (lv := [0, 1, 3, 5, 6]) (js := []) ⟨rfl, rfl, rfl, rfl, rfl, rfl, _, rfl, ?_⟩
  conv => whnf
  refine call0 (tokens_good [112, 40, 88, 44, 45, 49, 41] (by decide)) ?_
  rw [wk1, wk1p, wk1e]
  conv => whnf
  refine call0 (tokens_good [97, 10, 32, 63] (by decide)) ?_
  rw [wk2, wk2p, wk2e]
  conv => whnf
  refine ⟨_, ⟨by decide, rfl⟩, ?_⟩
  conv => whnf
  refine ⟨_, ⟨by decide, rfl⟩, ?_⟩
  conv => whnf
  refine ⟨⟨⟩, by decide, ?_⟩
  conv => whnf
  refine call0 (joinTok_good [⟨1, [112], (1, 1)⟩, ⟨5, [40], (1, 2)⟩] (by decide) (by decide)) ?_
  conv => whnf
  exact fin0 rfl trivial
theorem place_good (s : Bs) (p : Int × Int) (hs : s.length ≤ 1000000) : Good Tryd.prog 9 [.str s, .agg [.int .i64 p.1, .int .i64 p.2]] [] [.int .i64 (placeS s p)] [] := by
  refine good_of hP Tryd.func9 (by kernel_rfl) (lv := [0, 1, 3, 4, 5, 6, 7, 11, 23, 30]) (js := []) ⟨rfl, rfl, rfl, rfl, rfl, rfl, _, rfl, ?_⟩
  conv => whnf
  refine loop_of hP [0, 1, 3, 4, 5, 6, 7, 11, 23, 30] [] [0, 3, 4, 5, 6, 7] [67] [] (fun n st => ∃ k : Nat, n = s.length - k ∧ k ≤ s.length ∧ (∀ j, j < k → posS (s.take j) ≠ p) ∧ st = ⟨[(0, .str s), (3, .ptr 67 0 0), (4, .int .i64 0), (5, .int .i64 (posS (s.take k)).1), (6, .int .i64 (posS (s.take k)).2), (7, .int .i64 k)], [(67, .box 0 [.int .i64 p.1, .int .i64 p.2])]⟩) s.length ?_ ?_
  · conv => whnf
    exact ⟨0, rfl, Nat.zero_le _, fun j h => by omega, rfl⟩
  · rintro n st ⟨k, rfl, hk, hn, rfl⟩
    have hp := posS_le s k hk
    conv => whnf
    refine branch_of (fun h => ?_) (fun h => ?_)
    · have h := of_decide_eq_true h
      have hk' : k < s.length := by omega
      have hpos := posS_snoc s hk'
      have hw1 : IntKind.i64.wrap ((posS (s.take k)).2 + 1) = (posS (s.take k)).2 + 1 := wr (by omega) (by omega)
      have hw2 : IntKind.i64.wrap ((posS (s.take k)).1 + 1) = (posS (s.take k)).1 + 1 := wr (by omega) (by omega)
      have hw3 : IntKind.i64.wrap ((k : Int) + 1) = (k + 1 : Nat) := by rw [wr (by omega) (by omega)]; rfl
      have next : posS (s.take k) ≠ p → ∀ j, j < k + 1 → posS (s.take j) ≠ p := fun hne j hj => by
        by_cases e : j = k
        · subst e; exact hne
        · exact hn j (by omega)
      conv => whnf
      refine branch_of (fun h1 => ?_) (fun h1 => ?_)
      · have h1 := of_decide_eq_true h1
        conv => whnf
        refine branch_of (fun h2 => ?_) (fun h2 => ?_)
        · have h2 := of_decide_eq_true h2
          conv => whnf
          refine fin0 ?_ trivial
          rw [placeS_at hk' (Prod.ext h1 h2) hn]
        · have h2 := of_decide_eq_false h2
          have next := next (fun e => h2 (by rw [e]))
          conv => whnf
          refine ⟨s[k], idx hk' rfl, ?_⟩
          conv => whnf
          refine branch_of (fun h3 => ?_) (fun h3 => ?_)
          · have h3 := of_decide_eq_true h3
            rw [if_pos (by omega)] at hpos
            conv => whnf
            refine ⟨s.length - (k + 1), by omega, k + 1, rfl, by omega, next, ?_⟩
            rw [hw2, hw3, hpos]
          · have h3 := of_decide_eq_false h3
            rw [if_neg (by omega)] at hpos
            conv => whnf
            refine ⟨s.length - (k + 1), by omega, k + 1, rfl, by omega, next, ?_⟩
            rw [hw1, hw3, hpos]
      · have h1 := of_decide_eq_false h1
        have next := next (fun e => h1 (by rw [e]))
        conv => whnf
        refine ⟨s[k], idx hk' rfl, ?_⟩
        conv => whnf
        refine branch_of (fun h3 => ?_) (fun h3 => ?_)
        · have h3 := of_decide_eq_true h3
          rw [if_pos (by omega)] at hpos
          conv => whnf
          refine ⟨s.length - (k + 1), by omega, k + 1, rfl, by omega, next, ?_⟩
          rw [hw2, hw3, hpos]
        · have h3 := of_decide_eq_false h3
          rw [if_neg (by omega)] at hpos
          conv => whnf
          refine ⟨s.length - (k + 1), by omega, k + 1, rfl, by omega, next, ?_⟩
          rw [hw1, hw3, hpos]
    · have h := of_decide_eq_false h
      conv => whnf
      refine fin0 ?_ trivial
      rw [placeS_no (fun j hj => hn j (by omega))]
def longT : List Bs := [[97, 45, 49], [97, 32, 45, 32, 49], [60, 61], [60, 32, 61], [45, 62], [45, 32, 62], [61, 62], [61, 61], [33, 61], [88, 49, 95, 121], [49, 97], [34, 97, 92, 34, 34], [97, 46, 98, 58, 99, 47, 100], [45, 45, 49], [45], [60, 45, 49]]
def longN : List Int := [2, 3, 1, 2, 1, 0, 1, 2, 1, 1, 2, 1, 7, 2, 1, 2]
theorem long_ok : longT.all (fun t => decide (t.length ≤ 20000)) = true := by kernel_rfl
theorem long_all : ((List.range 16).all fun k => if longN.getD k 0 = 0 then decide (errR (longT.getD k []) = 6) && decide ((toksR (longT.getD k [])).length = 0) else decide (errR (longT.getD k []) = 0) && decide (((toksR (longT.getD k [])).length : Int) = longN.getD k 0)) = true := by kernel_rfl
theorem lexLongest_good (how : Int) (_ : (Lit.int .i64 how).wf = true) : Good Tryd.prog 5 [.int .i64 how] [] [.bool true] [] := by
  refine good_of hP Tryd.func5 (by kernel_rfl) (lv := [0, 2, 3, 4, 5, 6, 8, 28]) (js := []) ⟨rfl, rfl, rfl, rfl, rfl, rfl, _, rfl, ?_⟩
  obtain ⟨k, hk, hw⟩ := modk (m := 16) (by omega) (by omega) how
  have h16 : k < 16 := by omega
  have hT : k < longT.length := h16
  have hN : k < longN.length := h16
  have hall := List.all_eq_true.1 long_all k (List.mem_range.2 h16)
  have hlen := of_decide_eq_true (List.all_eq_true.1 long_ok _ (List.getElem_mem hT))
  have e1 : longT.getD k [] = longT[k] := by rw [List.getD_eq_getElem?_getD, List.getElem?_eq_getElem hT]; rfl
  have e2 : longN.getD k 0 = longN[k] := by rw [List.getD_eq_getElem?_getD, List.getElem?_eq_getElem hN]; rfl
  rw [e1, e2] at hall
  conv => whnf
  refine ⟨⟨⟩, by decide, ?_⟩
  conv => whnf
  rw [hw]
  refine ⟨⟨⟩, idxB (f := fun t => [V.str t]) hT rfl, ?_⟩
  conv => whnf
  refine ⟨[.str longT[k]], (idxM (f := fun t => [V.str t]) hT rfl).2, ?_⟩
  conv => whnf
  refine call0 (tokens_good longT[k] hlen) ?_
  generalize hC : longN[k] = c at *
  conv => whnf
  refine ⟨⟨⟩, idxB (f := fun t => [V.int .i64 t]) hN rfl, ?_⟩
  conv => whnf
  refine ⟨[.int .i64 c], by rw [← hC]; exact (idxM (f := fun t => [V.int .i64 t]) hN rfl).2, ?_⟩
  conv => whnf
  refine branch_of (fun h => ?_) (fun h => ?_)
  · have h := of_decide_eq_true h
    rw [if_pos h, Bool.and_eq_true, decide_eq_true_eq, decide_eq_true_eq] at hall
    rw [hall.1, List.eq_nil_of_length_eq_zero hall.2]
    conv => whnf
    refine call0 wakes_good ?_
    conv => whnf
    exact fin0 rfl trivial
  · have h := of_decide_eq_false h
    rw [if_neg h, Bool.and_eq_true, decide_eq_true_eq, decide_eq_true_eq] at hall
    rw [hall.1]
    conv => whnf
    refine ⟨⟨⟩, idxB (f := fun t => [V.int .i64 t]) hN rfl, ?_⟩
    conv => whnf
    refine ⟨[.int .i64 c], by rw [← hC]; exact (idxM (f := fun t => [V.int .i64 t]) hN rfl).2, ?_⟩
    conv => whnf
    refine branch_of (fun h => ?_) (fun h => absurd hall.2 ?_)
    · conv => whnf
      refine call0 wakes_good ?_
      conv => whnf
      exact fin0 rfl trivial
    · have := of_decide_eq_false h
      rw [List.length_map] at this; exact this
end Go.PV
