/- Part of the proof of LexPlaces. -/
import Derived.Test.YtefolkppcdjbpaaDoorLaw09
namespace Go.PV
open Go Go.Proofs
set_option maxRecDepth 100000
theorem lexPlaces_good (s : Bs) (_ : s.length ≤ maxLen) : Good Tryd.prog 4 [.str s] [] [.bool true] [] := by
  refine good_of hP Tryd.func4 (by kernel_rfl) (lv := [0, 2, 3, 4, 5, 6, 7, 8, 11, 19, 44, 88]) (js := []) ⟨rfl, rfl, rfl, rfl, rfl, rfl, _, rfl, ?_⟩
  conv => whnf
  refine branch_of (fun h => ?_) (fun h => ?_)
  · conv => whnf
    exact fin0 rfl trivial
  have h := of_decide_eq_false h
  have hs : s.length ≤ 1500 := by omega
  conv => whnf
  refine call0 (tokens_good s (by omega)) ?_
  rcases errR_cases s with he | ⟨he, ht, i, hi, hp⟩
  · rw [he]
    have hch := chain_R s
    have hlen : (toksR s).length ≤ s.length := by
      rcases chain_len hch with h | h
      · omega
      · rw [h]; exact Nat.zero_le _
    generalize toksR s = l at *
    conv => whnf
    refine loop_of hP [0, 2, 3, 4, 5, 6, 7, 8, 11, 19, 44, 88] [] [0, 2, 3, 6, 7] [] [] (fun n st => ∃ k lo : Nat, n = l.length - k ∧ k ≤ l.length ∧ lo ≤ s.length ∧ Chain s lo (l.drop k) ∧ st = ⟨[(0, .str s), (2, .bool false), (3, .sl 4 (toksV l)), (6, .int .i64 ((lo : Int) - 1)), (7, .int .i64 k)], []⟩) l.length ?_ ?_
    · conv => whnf
      exact ⟨0, 0, rfl, Nat.zero_le _, Nat.zero_le _, hch, rfl⟩
    · rintro n st ⟨k, lo, rfl, hk, hlo, hc, rfl⟩
      conv => whnf
      refine branch_of (fun h => ?_) (fun h => ?_)
      · have h := of_decide_eq_true h
        rw [List.length_map] at h
        have hk' : k < l.length := by omega
        rw [List.drop_eq_getElem_cons hk'] at hc
        obtain ⟨i, hi, hil, h1, hp, ht, hc⟩ := hc
        conv => whnf
        generalize hkt : l[k] = t at *
        have ix : 0 ≤ (k : Int) ∧ (toksV l)[(k : Int).toNat]? = some (Tok.c t) := by rw [← hkt]; exact idxM hk' rfl
        refine ⟨Tok.c t, ix, ?_⟩
        conv => whnf
        refine call0 (place_good s t.p (by omega)) ?_
        rw [hp, placeS_of (by omega)]
        conv => whnf
        refine branch_of (fun h2 => absurd (of_decide_eq_true h2) (by omega)) (fun h2 => ?_)
        conv => whnf
        refine ⟨Tok.c t, ix, ?_⟩
        conv => whnf
        have hw : IntKind.i64.wrap ((i : Int) + (t.t.length : Nat)) = (i + t.t.length : Nat) := by rw [wr (by omega) (by omega)]; omega
        refine branch_of (fun h3 => absurd (of_decide_eq_true h3) (by rw [hw]; omega)) (fun h3 => ?_)
        conv => whnf
        refine ⟨Tok.c t, ix, ?_⟩
        conv => whnf
        refine ⟨⟨⟩, by dsimp only; rw [hw]; omega, ?_⟩
        conv => whnf
        refine ⟨Tok.c t, ix, ?_⟩
        conv => whnf
        refine ⟨by kernel_rfl, ?_⟩
        conv => whnf
        rw [hw]
        refine branch_of (fun h4 => ?_) (fun h4 => ?_)
        · rw [Int.toNat_natCast, Int.toNat_natCast, Bool.not_eq_true'] at h4
          exact (of_decide_eq_false h4 (by rw [List.drop_take, Nat.add_sub_cancel_left]; exact ht.symm)).elim
        · conv => whnf
          refine ⟨Tok.c t, ix, ?_⟩
          conv => whnf
          refine ⟨l.length - (k + 1), by omega, k + 1, i + t.t.length, rfl, by omega, by omega, hc, ?_⟩
          rw [hw, wr (by omega) (by omega), wr (by omega) (by omega)]
          rfl
      · conv => whnf
        refine call0 wakes_good ?_
        conv => whnf
        exact fin0 rfl trivial
  · have hpl := posS_le s i (by omega)
    rw [he, ht, hp]
    conv => whnf
    refine branch_of (fun h1 => ?_) (fun h1 => False.elim (of_decide_eq_false h1 (by omega)))
    conv => whnf
    refine branch_of (fun h1 => ?_) (fun h1 => False.elim (of_decide_eq_false h1 (by omega)))
    conv => whnf
    refine call0 (place_good s (posS (s.take i)) (by omega)) ?_
    rw [placeS_of hi]
    conv => whnf
    refine call0 wakes_good ?_
    conv => whnf
    exact fin0 rfl trivial
end Go.PV
