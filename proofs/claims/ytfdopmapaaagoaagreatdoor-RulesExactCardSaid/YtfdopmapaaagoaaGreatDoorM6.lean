/- Part of the proof. -/
import Derived.Test.YtfdopmapaaagoaaGreatDoorM5
set_option linter.unusedVariables false
set_option linter.unusedSimpArgs false
namespace Go.PV
open Go Go.Proofs
set_option maxRecDepth 100000
def openV (k : Option Int) : List V := [.int .i64 (match k with | none => 1 | some _ => 2)]
def howB (k : Option Int) : Bs := match k with | none => [] | some k => opT k
def howV (k : Option Int) : List V := [.str (howB k)]
def OkS (st : List (Option Int)) : Prop := ∀ k, some k ∈ st → k = 3 ∨ k = 4 ∨ k = 5
theorem Rf.take_ok {q : Rf} {k : Int} {s : Bs} (h : (q.take k s).ok = true) : q.take k s = q.step ∧ q.i < q.l.length := by
  unfold Rf.take at *
  split
  · rename_i h1
    exact ⟨rfl, is_lt (by simp at h1; exact h1.2)⟩
  · rename_i h1
    rw [if_neg h1] at h
    cases h
theorem Rf.term_x (q : Rf) (h : q.term.1.v ≠ []) : q.term.1.x = zeroV := by
  unfold Rf.term at *
  cases hg : q.tok with
  | none => rfl
  | some t =>
    rw [hg] at h
    dsimp only at h ⊢
    split
    · rename_i h1
      rw [if_pos h1] at h
      dsimp only at h ⊢
      unfold refTerm at *
      split
      · rfl
      · rename_i h2
        rw [if_neg h2] at h
        split at h
        · exact absurd rfl h
        · split at h
          · exact absurd rfl h
          · exact absurd rfl h
    · rfl
theorem qexpr_good (q0 : Rf) (hb : tokB q0.l) (f0 : Nat) (hf0 : q0.l.length < f0 + q0.i) (h10 : 1 ≤ f0) : Good Tryz.prog 180 [.ptr 0 0 0] [q0.ob] [.sl 5 (stpV (Rf.exprF f0 q0 [] []).1), .bool (Rf.exprF f0 q0 [] []).2.1] [(Rf.exprF f0 q0 [] []).2.2.ob] := by
  have hl0 := hb.1
  refine good_of hP Tryz.func180 (by kernel_rfl) (lv := [0, 2, 3, 4, 5, 6, 7, 8, 9, 13, 15, 31, 38, 42, 66, 73, 79, 80, 82, 101, 129]) (js := [42]) ⟨rfl, rfl, rfl, rfl, rfl, rfl, _, rfl, ?_⟩
  generalize hU : Rf.exprF f0 q0 [] [] = U
  conv => whnf
  refine loop_of hP [0, 2, 3, 4, 5, 6, 7, 8, 9, 13, 15, 31, 38, 42, 66, 73, 79, 80, 82, 101, 129] [42] [0, 2, 3, 4, 5] [0, 66, 68, 69] [.slot 2 5, .slot 4 1, .slot 5 1] (fun m s => ∃ (f : Nat) (q : Rf) (st : List (Option Int)) (l : List Stp), f = m ∧ q.l = q0.l ∧ q.l.length < f + q.i ∧ 1 ≤ f ∧ st.length ≤ 15 ∧ OkS st ∧ l.length ≤ q.i ∧ U = Rf.exprF f q st l ∧
    s = ⟨[(0, .ptr 0 0 0), (2, .own 66 0), (3, .bool false), (4, .own 68 0), (5, .own 69 0)], [(0, q.ob), (66, .arr 0 false 5 (stpV l)), (68, .arr 0 false 1 (st.reverse.map openV)), (69, .arr 0 false 1 (st.reverse.map howV))]⟩) f0 ?_ ?_
  · conv => whnf
    exact ⟨f0, q0, [], [], rfl, rfl, hf0, h10, Nat.zero_le _, fun k h => by simp at h, Nat.zero_le _, hU.symm, rfl⟩
  · rintro m s ⟨f, ⟨ql, qi, qo⟩, st, l, hmf, hql, hf, h1, hst, hok, hll, hU, rfl⟩
    dsimp only at hql hf hll
    subst hql
    obtain ⟨f, rfl⟩ : ∃ g, f = g + 1 := ⟨f - 1, by omega⟩
    subst hmf
    rw [Rf.exprF] at hU
    conv => whnf
    cases qo with
    | false =>
      rw [if_neg (by simp)] at hU
      conv => whnf
      rw [hU]
      refine ⟨[], rfl, ?_⟩
      conv => whnf
      exact ⟨⟨⟩, rfl, trivial⟩
    | true =>
    rw [if_pos rfl] at hU
    conv => whnf
    refine callN [(0, 0)] (qis_good ⟨q0.l, qi, true⟩ 5 [40] hb) ?_ 
    conv => whnf
    refine ⟨⟨⟩, rfl, ?_⟩
    cases hs : (⟨q0.l, qi, true⟩ : Rf).is 5 [40] with
    | true =>
      rw [hs, if_pos rfl] at hU
      have hlt : qi < q0.l.length := is_lt hs
      have hw : IntKind.i64.wrap ((qi : Int) + 1) = (qi + 1 : Nat) := by rw [wr (by omega) (by omega)]; rfl
      conv => whnf
      rw [hw]
      have hap : ∀ {β : Type} (g : Option Int → β) (k : Option Int), (k :: st).reverse.map g = st.reverse.map g ++ [g k] := fun g k => by simp
      refine ⟨⟨⟩, by dsimp only; simp only [List.length_map, List.length_reverse, List.length_cons, List.length_nil]; omega, ?_⟩
      conv => whnf
      refine ⟨⟨⟩, by dsimp only; simp only [List.length_map, List.length_reverse, List.length_cons, List.length_nil]; omega, ?_⟩
      conv => whnf
      refine branch_of (fun h => ?_) (fun h => ?_)
      · have h := of_decide_eq_true h
        rw [List.length_append, List.length_map, List.length_reverse] at h
        rw [if_pos (by simp only [List.length_cons, List.length_nil] at h; omega)] at hU
        conv => whnf
        rw [hU]
        refine ⟨[], rfl, ?_⟩
        conv => whnf
        exact ⟨⟨⟩, rfl, trivial⟩
      · have h := of_decide_eq_false h
        rw [List.length_append, List.length_map, List.length_reverse] at h
        rw [if_neg (by simp only [List.length_cons, List.length_nil] at h; omega)] at hU
        conv => whnf
        refine ⟨f, by omega, f, ⟨q0.l, qi + 1, true⟩, none :: st, l, rfl, rfl, by dsimp only; omega, by omega, by simp only [List.length_cons, List.length_nil] at h ⊢; omega, ?_, by dsimp only; omega, hU, ?_⟩
        · intro k hk
          rcases List.mem_cons.1 hk with e | e
          · cases e
          · exact hok k e
        · rw [hap openV none, hap howV none]; rfl
    | false =>
      rw [hs, if_neg (by simp)] at hU
      conv => whnf
      refine callN [(0, 0)] (qterm_good ⟨q0.l, qi, true⟩ hb) ?_ 
      conv => whnf
      refine ⟨⟨⟩, rfl, ?_⟩
      have htu := Rf.term_up (q := ⟨q0.l, qi, true⟩)
      have htx := Rf.term_x ⟨q0.l, qi, true⟩
      generalize (⟨q0.l, qi, true⟩ : Rf).term = y at *
      obtain ⟨t, ⟨ql, qj, qo⟩⟩ := y
      dsimp only at htu htx hU
      conv => whnf
      cases qo with
      | false =>
        rw [if_neg (by simp)] at hU
        conv => whnf
        rw [hU]
        refine ⟨[], rfl, ?_⟩
        conv => whnf
        exact ⟨⟨⟩, rfl, trivial⟩
      | true =>
      rw [if_pos rfl] at hU
      obtain ⟨e1, hlt⟩ := htu rfl rfl
      unfold Rf.step at e1
      injection e1 with e1 e2 _
      subst e1
      subst e2
      dsimp only at hlt hU
      conv => whnf
      refine seq_of hP [0, 2, 3, 4, 5, 6, 7, 8, 9, 13, 15, 31, 38, 42, 66, 73, 79, 80, 82, 101, 129] [42] [0, 2, 3, 4, 5] [0, 66, 68, 69] [] (fun s => s = ⟨[(0, .ptr 0 0 0), (2, .own 66 0), (3, .bool false), (4, .own 68 0), (5, .own 69 0)], [(0, (⟨q0.l, qi + 1, true⟩ : Rf).ob), (66, .arr 0 false 5 (stpV (l ++ [pushS t]))), (68, .arr 0 false 1 (st.reverse.map openV)), (69, .arr 0 false 1 (st.reverse.map howV))]⟩) ?_ ?_
      · have hps : stpV (l ++ [pushS t]) = stpV l ++ [(pushS t).c] := List.map_append
        rw [hps]
        obtain ⟨v, x⟩ := t
        conv => whnf
        refine branch_of (fun h => ?_) (fun h => ?_)
        · have h := of_decide_eq_true h
          have hv : v ≠ [] := by rintro rfl; exact absurd h (by simp)
          have e : (pushS ⟨v, x⟩).c = [.int .i64 1, .str v, .int .i64 x.k, .int .i64 x.n, .str x.s] := by unfold pushS; rw [if_neg hv]
          rw [e]
          conv => whnf
          refine ⟨⟨⟩, by dsimp only; simp only [List.length_map, List.length_cons, List.length_nil]; omega, ?_⟩
          conv => whnf
          obtain rfl : x = zeroV := htx hv
          rfl
        · have h := of_decide_eq_false h
          have hv : v = [] := List.eq_nil_of_length_eq_zero (by dsimp only at h; omega)
          subst hv
          conv => whnf
          refine ⟨⟨⟩, by dsimp only; simp only [List.length_map, List.length_cons, List.length_nil]; omega, ?_⟩
          conv => whnf
          rfl
      · rintro s rfl
        conv => whnf
        refine loop_of hP [0, 2, 3, 4, 5, 6, 7, 8, 9, 13, 15, 31, 38, 42, 66, 73, 79, 80, 82, 101, 129] [42] [0, 2, 3, 4, 5] [0, 66, 68, 69] [] (fun m s => ∃ (q : Rf) (st2 : List (Option Int)) (l2 : List Stp), m = st2.length ∧ q.l = q0.l ∧ q.ok = true ∧ qi + 1 ≤ q.i ∧ q.i ≤ q0.l.length ∧ st2.length ≤ 15 ∧ OkS st2 ∧ l2.length ≤ q.i ∧ Rf.closeF st (l ++ [pushS t]) ⟨q0.l, qi + 1, true⟩ = Rf.closeF st2 l2 q ∧
          s = ⟨[(0, .ptr 0 0 0), (2, .own 66 0), (3, .bool false), (4, .own 68 0), (5, .own 69 0)], [(0, q.ob), (66, .arr 0 false 5 (stpV l2)), (68, .arr 0 false 1 (st2.reverse.map openV)), (69, .arr 0 false 1 (st2.reverse.map howV))]⟩) st.length ?_ ?_
        · conv => whnf
          exact ⟨⟨q0.l, qi + 1, true⟩, st, l ++ [pushS t], rfl, rfl, rfl, Nat.le_refl _, hlt, hst, hok, by rw [List.length_append]; show _ + 1 ≤ qi + 1; omega, rfl, rfl⟩
        · rintro m s ⟨⟨ql2, qj, qo2⟩, st2, l2, hm, hql2, hqo2, hqj, hqk, hst2, hok2, hl2, hC, rfl⟩
          dsimp only at hql2 hqo2 hqj hqk hl2
          subst hql2
          subst hqo2
          subst hm
          unfold Rf.contF at hU
          rw [hC] at hU
          cases st2 with
          | nil =>
            rw [Rf.closeF] at hU
            conv => whnf
            rw [hU]
            refine ⟨[], rfl, ?_⟩
            conv => whnf
            exact ⟨⟨⟩, rfl, trivial⟩
          | cons o st3 =>
            have h0 : decide (0 < (((o :: st3).reverse.map openV).length : Int)) = true := by rw [decide_eq_true_iff, List.length_map, List.length_reverse, List.length_cons]; omega
            have hlen : ∀ g : Option Int → List V, IntKind.i64.wrap ((((o :: st3).reverse.map g).length : Int) - 1) = (st3.length : Nat) := fun g => by
              rw [List.length_map, List.length_reverse, List.length_cons] at *
              rw [wr (by omega) (by omega)]; omega
            have hget : ∀ g : Option Int → List V, ((o :: st3).reverse.map g)[((st3.length : Nat) : Int).toNat]? = some (g o) := fun g => by simp
            have hb1 : ∀ g : Option Int → List V, (0 : Int) ≤ (st3.length : Nat) ∧ ((st3.length : Nat) : Int) < (((o :: st3).reverse.map g).length : Int) := fun g => by
              rw [List.length_map, List.length_reverse, List.length_cons]; omega
            conv => whnf
            rw [h0]
            conv => whnf
            rw [hlen]
            refine ⟨⟨⟩, hb1 openV, ?_⟩
            conv => whnf
            refine ⟨openV o, hget openV, ?_⟩
            cases o with
            | none =>
              have h1z : decide ((((none :: st3).reverse.map openV).length : Int) = 0) = false := by rw [decide_eq_false_iff_not, List.length_map, List.length_reverse, List.length_cons]; omega
              rw [Rf.closeF] at hU
              conv => whnf
              rw [h1z]
              conv => whnf
              refine callN [(0, 0)] (qtok_good ⟨q0.l, qj, true⟩ hb) ?_ 
              conv => whnf
              refine ⟨⟨⟩, rfl, ?_⟩
              conv => whnf
              dsimp only at hU
              have hsg : (⟨q0.l, qj, true⟩ : Rf).signF = match (⟨q0.l, qj, true⟩ : Rf).tok with
                  | some t => if t.k = 5 ∧ t.t = [43] then some 3 else if t.k = 5 ∧ t.t = [45] then some 4 else if t.k = 5 ∧ t.t = [42] then some 5 else none
                  | none => none := by
                unfold Rf.signF Rf.is
                cases (⟨q0.l, qj, true⟩ : Rf).tok with
                | none => rfl
                | some t => simp only [Bool.and_eq_true, decide_eq_true_eq]
              rw [hsg] at hU
              have htl : ∀ t, (⟨q0.l, qj, true⟩ : Rf).tok = some t → qj < q0.l.length := fun t h => (tok_lt h).1
              generalize (⟨q0.l, qj, true⟩ : Rf).tok = z at *
              cases z with
              | none =>
                dsimp only at hU
                conv => whnf
                rw [hU]
                refine ⟨[], rfl, ?_⟩
                conv => whnf
                exact ⟨⟨⟩, rfl, trivial⟩
              | some tt =>
                have hjl : qj < q0.l.length := htl _ rfl
                obtain ⟨tk, tx, tp⟩ := tt
                have hwj : IntKind.i64.wrap ((qj : Int) + 1) = (qj + 1 : Nat) := by rw [wr (by omega) (by omega)]; rfl
                dsimp only at hU
                have bad : U = ([], false, (⟨q0.l, qj, true⟩ : Rf).fail) ∨ (tk = 5 ∧ (tx = [43] ∨ tx = [45] ∨ tx = [42])) := by
                  by_cases h1 : tk = 5 ∧ tx = [43]
                  · exact .inr ⟨h1.1, .inl h1.2⟩
                  · rw [if_neg h1] at hU
                    by_cases h2 : tk = 5 ∧ tx = [45]
                    · exact .inr ⟨h2.1, .inr (.inl h2.2)⟩
                    · rw [if_neg h2] at hU
                      by_cases h3 : tk = 5 ∧ tx = [42]
                      · exact .inr ⟨h3.1, .inr (.inr h3.2)⟩
                      · rw [if_neg h3] at hU
                        exact .inl hU
                by_cases hg : tk = 5 ∧ (tx = [43] ∨ tx = [45] ∨ tx = [42])
                · obtain ⟨rfl, rfl | rfl | rfl⟩ := hg
                  · rw [if_pos ⟨rfl, rfl⟩] at hU
                    conv => whnf
                    rw [hwj]
                    rw [hlen]
                    refine ⟨⟨⟩, hb1 openV, ?_⟩
                    conv => whnf
                    refine ⟨openV none, hget openV, ?_⟩
                    conv => whnf
                    rw [hlen]
                    refine ⟨⟨⟩, hb1 howV, ?_⟩
                    conv => whnf
                    refine ⟨howV none, hget howV, ?_⟩
                    conv => whnf
                    refine ⟨by kernel_rfl, ?_⟩
                    conv => whnf
                    have hset : ∀ g : Option Int → List V, ((none :: st3).reverse.map g).set ((st3.length : Nat) : Int).toNat (g (some 3)) = (some 3 :: st3).reverse.map g := fun g => by
                      rw [List.reverse_cons, List.map_append, List.reverse_cons, List.map_append, List.set_append_right _ _ (by simp)]
                      simp
                    refine ⟨f, by omega, f, ⟨q0.l, qj + 1, true⟩, some 3 :: st3, l2, rfl, rfl, by dsimp only; omega, by omega, by simpa using hst2, ?_, by dsimp only; omega, hU, ?_⟩
                    · intro x hx
                      rcases List.mem_cons.1 hx with e | e
                      · injection e with e; omega
                      · exact hok2 x (List.mem_cons_of_mem _ e)
                    · rw [← hset openV, ← hset howV]
                      rfl
                  · rw [if_neg (by decide), if_pos ⟨rfl, rfl⟩] at hU
                    conv => whnf
                    rw [hwj]
                    rw [hlen]
                    refine ⟨⟨⟩, hb1 openV, ?_⟩
                    conv => whnf
                    refine ⟨openV none, hget openV, ?_⟩
                    conv => whnf
                    rw [hlen]
                    refine ⟨⟨⟩, hb1 howV, ?_⟩
                    conv => whnf
                    refine ⟨howV none, hget howV, ?_⟩
                    conv => whnf
                    refine ⟨by kernel_rfl, ?_⟩
                    conv => whnf
                    have hset : ∀ g : Option Int → List V, ((none :: st3).reverse.map g).set ((st3.length : Nat) : Int).toNat (g (some 4)) = (some 4 :: st3).reverse.map g := fun g => by
                      rw [List.reverse_cons, List.map_append, List.reverse_cons, List.map_append, List.set_append_right _ _ (by simp)]
                      simp
                    refine ⟨f, by omega, f, ⟨q0.l, qj + 1, true⟩, some 4 :: st3, l2, rfl, rfl, by dsimp only; omega, by omega, by simpa using hst2, ?_, by dsimp only; omega, hU, ?_⟩
                    · intro x hx
                      rcases List.mem_cons.1 hx with e | e
                      · injection e with e; omega
                      · exact hok2 x (List.mem_cons_of_mem _ e)
                    · rw [← hset openV, ← hset howV]
                      rfl
                  · rw [if_neg (by decide), if_neg (by decide), if_pos ⟨rfl, rfl⟩] at hU
                    conv => whnf
                    rw [hwj]
                    rw [hlen]
                    refine ⟨⟨⟩, hb1 openV, ?_⟩
                    conv => whnf
                    refine ⟨openV none, hget openV, ?_⟩
                    conv => whnf
                    rw [hlen]
                    refine ⟨⟨⟩, hb1 howV, ?_⟩
                    conv => whnf
                    refine ⟨howV none, hget howV, ?_⟩
                    conv => whnf
                    refine ⟨by kernel_rfl, ?_⟩
                    conv => whnf
                    have hset : ∀ g : Option Int → List V, ((none :: st3).reverse.map g).set ((st3.length : Nat) : Int).toNat (g (some 5)) = (some 5 :: st3).reverse.map g := fun g => by
                      rw [List.reverse_cons, List.map_append, List.reverse_cons, List.map_append, List.set_append_right _ _ (by simp)]
                      simp
                    refine ⟨f, by omega, f, ⟨q0.l, qj + 1, true⟩, some 5 :: st3, l2, rfl, rfl, by dsimp only; omega, by omega, by simpa using hst2, ?_, by dsimp only; omega, hU, ?_⟩
                    · intro x hx
                      rcases List.mem_cons.1 hx with e | e
                      · injection e with e; omega
                      · exact hok2 x (List.mem_cons_of_mem _ e)
                    · rw [← hset openV, ← hset howV]
                      rfl
                · have hU : U = ([], false, (⟨q0.l, qj, true⟩ : Rf).fail) := bad.resolve_right hg
                  conv => whnf
                  refine branch_of (fun g1 => ?_) (fun g1 => ?_)
                  · conv => whnf
                    rw [hU]
                    refine ⟨[], rfl, ?_⟩
                    conv => whnf
                    exact ⟨⟨⟩, rfl, trivial⟩
                  · have g1 : tk = 5 := by simpa using g1
                    conv => whnf
                    refine branch_of (fun g2 => ?_) (fun g2 => ?_)
                    · conv => whnf
                      refine branch_of (fun g3 => ?_) (fun g3 => ?_)
                      · conv => whnf
                        refine branch_of (fun g4 => ?_) (fun g4 => ?_)
                        · conv => whnf
                          rw [hU]
                          refine ⟨[], rfl, ?_⟩
                          conv => whnf
                          exact ⟨⟨⟩, rfl, trivial⟩
                        · exact absurd ⟨g1, .inr (.inr (by simpa using g4))⟩ hg
                      · exact absurd ⟨g1, .inr (.inl (by simpa using g3))⟩ hg
                    · exact absurd ⟨g1, .inl (by simpa using g2)⟩ hg
            | some k =>
              conv => whnf
              refine callN [(0, 0)] (qtake_good ⟨q0.l, qj, true⟩ 5 [41] hb) ?_ 
              conv => whnf
              refine ⟨⟨⟩, rfl, ?_⟩
              have htk := Rf.take_ok (q := ⟨q0.l, qj, true⟩) (k := 5) (s := [41])
              rw [Rf.closeF] at hC hU
              generalize (⟨q0.l, qj, true⟩ : Rf).take 5 [41] = z at *
              obtain ⟨zl, zi, zo⟩ := z
              cases zo with
              | false =>
                rw [if_neg (by simp)] at hU
                conv => whnf
                rw [hU]
                refine ⟨[], rfl, ?_⟩
                conv => whnf
                exact ⟨⟨⟩, rfl, trivial⟩
              | true =>
                rw [if_pos rfl] at hU hC
                obtain ⟨ez, hjl⟩ := htk rfl
                dsimp only at hjl
                unfold Rf.step at ez
                injection ez with ez1 ez2 _
                subst ez1
                subst ez2
                conv => whnf
                rw [hlen]
                refine ⟨⟨⟩, hb1 howV, ?_⟩
                conv => whnf
                refine ⟨howV (some k), hget howV, ?_⟩
                rcases hok2 k (by simp) with rfl | rfl | rfl
                · conv => whnf
                  refine ⟨⟨⟩, by dsimp only; simp only [List.length_map, List.length_cons, List.length_nil]; omega, ?_⟩
                  conv => whnf
                  refine ⟨true, trivial, ?_⟩
                  rw [hlen]
                  conv => whnf
                  refine ⟨⟨⟩, by dsimp only; simp only [List.length_map, List.length_reverse, List.length_cons]; omega, ?_⟩
                  conv => whnf
                  refine ⟨true, trivial, ?_⟩
                  rw [hlen]
                  conv => whnf
                  refine ⟨⟨⟩, by dsimp only; simp only [List.length_map, List.length_reverse, List.length_cons]; omega, ?_⟩
                  conv => whnf
                  refine ⟨by kernel_rfl, ?_⟩
                  conv => whnf
                  have htake : ∀ g : Option Int → List V, ((some 3 :: st3).reverse.map g).take ((st3.length : Nat) : Int).toNat = st3.reverse.map g := fun g => by simp
                  refine ⟨st3.length, by simp, ⟨q0.l, qj + 1, true⟩, st3, l2 ++ [⟨3, [], zeroV⟩], rfl, rfl, rfl, by dsimp only; omega, hjl, by simp only [List.length_cons] at hst2; omega, fun x hx => hok2 x (List.mem_cons_of_mem _ hx), by rw [List.length_append]; show _ + 1 ≤ qj + 1; omega, hC, ?_⟩
                  rw [htake, htake, show stpV (l2 ++ [⟨3, [], zeroV⟩]) = stpV l2 ++ [Stp.c ⟨3, [], zeroV⟩] from List.map_append]
                  rfl
                · conv => whnf
                  refine ⟨⟨⟩, by dsimp only; simp only [List.length_map, List.length_cons, List.length_nil]; omega, ?_⟩
                  conv => whnf
                  refine ⟨true, trivial, ?_⟩
                  rw [hlen]
                  conv => whnf
                  refine ⟨⟨⟩, by dsimp only; simp only [List.length_map, List.length_reverse, List.length_cons]; omega, ?_⟩
                  conv => whnf
                  refine ⟨true, trivial, ?_⟩
                  rw [hlen]
                  conv => whnf
                  refine ⟨⟨⟩, by dsimp only; simp only [List.length_map, List.length_reverse, List.length_cons]; omega, ?_⟩
                  conv => whnf
                  refine ⟨by kernel_rfl, ?_⟩
                  conv => whnf
                  have htake : ∀ g : Option Int → List V, ((some 4 :: st3).reverse.map g).take ((st3.length : Nat) : Int).toNat = st3.reverse.map g := fun g => by simp
                  refine ⟨st3.length, by simp, ⟨q0.l, qj + 1, true⟩, st3, l2 ++ [⟨4, [], zeroV⟩], rfl, rfl, rfl, by dsimp only; omega, hjl, by simp only [List.length_cons] at hst2; omega, fun x hx => hok2 x (List.mem_cons_of_mem _ hx), by rw [List.length_append]; show _ + 1 ≤ qj + 1; omega, hC, ?_⟩
                  rw [htake, htake, show stpV (l2 ++ [⟨4, [], zeroV⟩]) = stpV l2 ++ [Stp.c ⟨4, [], zeroV⟩] from List.map_append]
                  rfl
                · conv => whnf
                  refine ⟨⟨⟩, by dsimp only; simp only [List.length_map, List.length_cons, List.length_nil]; omega, ?_⟩
                  conv => whnf
                  refine ⟨true, trivial, ?_⟩
                  rw [hlen]
                  conv => whnf
                  refine ⟨⟨⟩, by dsimp only; simp only [List.length_map, List.length_reverse, List.length_cons]; omega, ?_⟩
                  conv => whnf
                  refine ⟨true, trivial, ?_⟩
                  rw [hlen]
                  conv => whnf
                  refine ⟨⟨⟩, by dsimp only; simp only [List.length_map, List.length_reverse, List.length_cons]; omega, ?_⟩
                  conv => whnf
                  refine ⟨by kernel_rfl, ?_⟩
                  conv => whnf
                  have htake : ∀ g : Option Int → List V, ((some 5 :: st3).reverse.map g).take ((st3.length : Nat) : Int).toNat = st3.reverse.map g := fun g => by simp
                  refine ⟨st3.length, by simp, ⟨q0.l, qj + 1, true⟩, st3, l2 ++ [⟨5, [], zeroV⟩], rfl, rfl, rfl, by dsimp only; omega, hjl, by simp only [List.length_cons] at hst2; omega, fun x hx => hok2 x (List.mem_cons_of_mem _ hx), by rw [List.length_append]; show _ + 1 ≤ qj + 1; omega, hC, ?_⟩
                  rw [htake, htake, show stpV (l2 ++ [⟨5, [], zeroV⟩]) = stpV l2 ++ [Stp.c ⟨5, [], zeroV⟩] from List.map_append]
                  rfl
end Go.PV
namespace Go.PV
open Go
/-! the page's reader of rules -/
namespace Rf
def wayF (q : Rf) : Int := if q.ok then (if q.is 5 [60, 61] then 4 else if q.is 5 [60] then 3 else if q.is 5 [33, 61] then 2 else if q.is 5 [61] then 1 else 0) else 0
def exprO (q : Rf) : List Stp × Bool × Rf := exprF (q.l.length + 1) q [] []
def condF (q : Rf) : Cnd × Bool × Rf :=
  if q.is 1 [110, 111, 116] then (⟨2, q.step.atom.1, 0, [], []⟩, false, q.step.atom.2)
  else if q.is 5 [91] then
    let a := q.step.exprO
    if a.2.1 then (⟨3, zeroA, 0, a.1, []⟩, true, a.2.2) else
    let w := a.2.2.wayF
    let p : Rf := if w = 0 then a.2.2.fail else a.2.2
    if p.ok then
      let b := p.step.exprO
      if b.2.1 then (⟨3, zeroA, w, a.1, b.1⟩, true, b.2.2) else (⟨3, zeroA, w, a.1, b.1⟩, false, b.2.2.take 5 [93])
    else (⟨3, zeroA, w, a.1, []⟩, false, p.take 5 [93])
  else (⟨1, q.atom.1, 0, [], []⟩, false, q.atom.2)
def loopF {α : Type} (g : Rf → α × Bool × Rf) : Nat → Rf → List α → List α × Bool × Rf
  | 0, q, l => (l, false, q)
  | f + 1, q, l =>
    if q.ok then
      let c := g q
      if c.2.1 then (l, true, c.2.2) else
      if c.2.2.ok && c.2.2.is 5 [44] then loopF g f c.2.2.step (l ++ [c.1]) else (l ++ [c.1], false, c.2.2)
    else (l, false, q)
abbrev condsF := loopF condF
/-- the arguments behind '(' or ',' -/
def argsF : Nat → Rf → List (List Stp) → List (List Stp) × Bool × Rf
  | 0, q, l => (l, false, q.step)
  | f + 1, q, l =>
    let a := q.step.exprO
    if a.2.1 then (l, true, a.2.2) else
    if a.2.2.ok && a.2.2.is 5 [44] then argsF f a.2.2 (l ++ [a.1]) else (l ++ [a.1], false, a.2.2)
def negF (q : Rf) : Bool := match q.tok with
  | some t => decide (t.k = 3) && decide ((refNumS t.t).getD 0 < 0)
  | none => false
def actF (q : Rf) : Act × Bool × Rf :=
  if q.is 1 [100, 114, 111, 112] then
    let p : Rf := if q.step.negF then q.step.fail else q.step
    (⟨2, [], [], p.num.1⟩, false, p.num.2)
  else
    let x := (q.take 5 [43]).name
    if x.2.ok && x.2.is 5 [40] then
      let a := argsF (q.l.length + 1) x.2 []
      if a.2.1 then (⟨1, x.1, a.1, 0⟩, true, a.2.2) else (⟨1, x.1, a.1, 0⟩, false, a.2.2.take 5 [41])
    else (⟨1, x.1, [], 0⟩, false, x.2)
abbrev actsF := loopF actF
def ruleF (q : Rf) : Rul × Bool × Rf :=
  let n := (q.take 1 [114, 117, 108, 101]).name
  let p := n.2.num
  let c := condsF (q.l.length + 1) (p.2.take 5 [58]) []
  if c.2.1 then (⟨n.1, p.1, c.1, []⟩, true, c.2.2) else
  let a := actsF (q.l.length + 1) (c.2.2.take 5 [45, 62]) []
  if a.2.1 then (⟨n.1, p.1, c.1, a.1⟩, true, a.2.2) else (⟨n.1, p.1, c.1, a.1⟩, false, a.2.2.take 5 [46])
end Rf
end Go.PV
namespace Go.PV
open Go
/-! the two readers of rules say the same -/
theorem Rd.term_w (r : Rd) : r.term.2.wrong = r.wrong := by
  unfold Rd.term
  split
  · split <;> rfl
  · rfl
theorem Rd.reckons_w (r : Rd) : r.reckons.2.wrong = r.wrong := by
  unfold Rd.reckons
  split
  · rfl
  · split
    · rfl
    · split
      · rfl
      · dsimp only; split <;> rfl
theorem Rd.want_w (r : Rd) (k : Int) (t : Bs) : (r.want k t).wrong = r.wrong := by
  unfold Rd.want
  split
  · rfl
  · split <;> rfl
theorem Rd.part_w (n : Nat) : ∀ r : Rd, (r.part n).2.wrong = r.wrong := by
  induction n with
  | zero =>
    intro r
    unfold Rd.part
    split
    · rfl
    · dsimp only; exact Rd.term_w r
  | succ n ih =>
    intro r
    unfold Rd.part
    split
    · dsimp only
      split
      · dsimp only; rw [Rd.want_w, ih]; show (Rd.reckons _).2.wrong = _; rw [Rd.reckons_w, ih]; rfl
      · dsimp only; rw [Rd.reckons_w, ih]; rfl
    · dsimp only; rw [Rd.term_w]
theorem Rd.expr_w {r : Rd} (h : r.wrong = true) : r.expr.2.wrong = true := by
  unfold Rd.expr
  split
  · dsimp only
    split
    · rfl
    · rw [Rd.part_w, h]
  · exact h
theorem Rd.name_w (r : Rd) : r.name.2.wrong = r.wrong := by
  unfold Rd.name
  split
  · split
    · split <;> rfl
    · rfl
  · rfl
theorem Rd.num_w (r : Rd) : r.num.2.wrong = r.wrong := by
  unfold Rd.num
  split
  · split
    · split <;> rfl
    · rfl
  · rfl
theorem Rd.way_w (r : Rd) : r.way.2.wrong = r.wrong := by
  unfold Rd.way
  split
  · rfl
  · split
    · rfl
    · split
      · rfl
      · split
        · rfl
        · dsimp only; split <;> rfl
theorem Rd.atom_w {r : Rd} (h : r.wrong = true) : r.atom.2.wrong = true := by
  unfold Rd.atom
  dsimp only
  split
  · dsimp only
    split
    · rfl
    · unfold Rd.brack
      dsimp only
      rw [Rd.want_w, Sim.args_w, Rd.term_w]
      show r.name.2.wrong = true
      rw [Rd.name_w, h]
  · rw [Rd.name_w, h]
/-- an expression read by both -/
theorem exprO_sim {r : Rd} {q : Rf} (h : Sim r q) (ho : q.ok = true) :
    (r.expr.2.over = true ∧ q.exprO.2.1 = true) ∨
    (q.exprO.2.1 = false ∧ Sim r.expr.2 q.exprO.2.2 ∧ (q.exprO.2.2.ok = true → q.exprO.1 = r.expr.1 ∧ q.exprO.2.2.l = q.l ∧ q.i < q.exprO.2.2.i ∧
      ((exprOk q.exprO.1 = false ∧ r.expr.2.wrong = true) ∨ r.expr.2.wrong = r.wrong))) := by
  rcases expr_sim (f := q.l.length + 1) h ho (by omega) (by omega) with ⟨a, b⟩ | ⟨a, b, q', c, d⟩ | ⟨q', a, b, c, d, e, w⟩
  · exact .inl ⟨a, b⟩
  · refine .inr ?_
    unfold Rf.exprO
    rw [d]
    refine ⟨rfl, c, fun hk => ?_⟩
    rw [c.isOpen] at b
    rw [b] at hk
    cases hk
  · refine .inr ?_
    unfold Rf.exprO
    rw [e]
    refine ⟨rfl, a, fun _ => ⟨rfl, c, d, ?_⟩⟩
    dsimp only
    cases hw : r.wrong with
    | true => exact .inr (Rd.expr_w hw)
    | false =>
      have w := w hw
      by_cases hl : 15 < r.expr.1.length
      · refine .inl ⟨?_, by rw [w, decide_eq_true hl]⟩
        unfold exprOk
        rw [decide_eq_false (by omega)]
        rfl
      · exact .inr (by rw [w, decide_eq_false hl])
theorem Rf.name_up {q : Rf} (h : q.name.2.ok = true) : q.name.2.i = q.i + 1 := by
  unfold Rf.name at *
  split
  · split
    · rfl
    · rename_i t ht hn
      rw [ht] at h
      dsimp only at h
      rw [if_neg hn] at h
      cases h
  · rename_i ht
    rw [ht] at h
    cases h
theorem Rf.args_i : ∀ (f : Nat) (q : Rf), q.i ≤ (Rf.args f q).2.i
  | 0, q => Nat.le_refl _
  | f + 1, q => by
    unfold Rf.args
    split
    · dsimp only
      have h1 := Rf.args_i f q.step.term.2
      have h2 := Rf.term_l q.step
      have e : q.step.i = q.i + 1 := rfl
      omega
    · exact Nat.le_refl _
theorem Rf.atom_up {q : Rf} (h : q.atom.2.ok = true) : q.i < q.atom.2.i := by
  unfold Rf.atom at *
  split
  · rename_i hc
    simp only [Bool.and_eq_true] at hc
    have h0 := Rf.name_up hc.1
    dsimp only
    have h1 := (Rf.take_l (Rf.args q.name.2.l.length q.name.2.step.term.2).2 5 [41]).2
    have h2 := Rf.args_i q.name.2.l.length q.name.2.step.term.2
    have h3 := Rf.term_l q.name.2.step
    have e : q.name.2.step.i = q.name.2.i + 1 := rfl
    omega
  · rename_i hc
    rw [if_neg hc] at h
    have h0 := Rf.name_up h
    dsimp only
    omega
theorem atom_sim {r : Rd} {q : Rf} (h : Sim r q) : Sim r.atom.2 q.atom.2 ∧ (q.atom.2.ok = true → q.i < q.atom.2.i ∧
    ((atomOk q.atom.1 = false ∧ r.atom.2.wrong = true) ∨ (q.atom.1 = r.atom.1 ∧ r.atom.2.wrong = r.wrong))) := by
  obtain ⟨h1, h2, h3⟩ := h.atom
  refine ⟨h2, fun hk => ⟨Rf.atom_up hk, ?_⟩⟩
  by_cases hl : 5 < q.atom.1.a.length
  · refine .inl ⟨?_, ?_⟩
    · unfold atomOk
      rw [decide_eq_false (by omega)]
      simp
    · cases hw : r.wrong with
      | true => exact Rd.atom_w hw
      | false => rw [h3 hw, decide_eq_true hl]
  · refine .inr ⟨?_, ?_⟩
    · rw [h1, List.take_of_length_le (by omega)]
    · cases hw : r.wrong with
      | true => rw [Rd.atom_w hw]
      | false => rw [h3 hw, decide_eq_false hl]
theorem Rf.is_eq {q : Rf} {k k' : Int} {a b : Bs} (h : q.is k a = true) (h' : q.is k' b = true) : k = k' ∧ a = b := by
  unfold Rf.is at *
  cases hg : q.tok with
  | none => rw [hg] at h; cases h
  | some t =>
    rw [hg] at h h'
    simp only [Bool.and_eq_true, decide_eq_true_eq] at h h'
    exact ⟨h.1.symm.trans h'.1, h.2.symm.trans h'.2⟩
theorem way_sim {r : Rd} {q : Rf} (h : Sim r q) : r.way.1 = q.wayF ∧ Sim r.way.2 (if q.wayF = 0 then q.fail else q.step) ∧ (q.wayF ≠ 0 → q.ok = true) := by
  unfold Rd.way Rf.wayF
  rw [h.see (k := 5) (s := [61]) (by decide +kernel), h.see (k := 5) (s := [33, 61]) (by decide +kernel), h.see (k := 5) (s := [60]) (by decide +kernel), h.see (k := 5) (s := [60, 61]) (by decide +kernel), h.isOpen]
  cases ho : q.ok with
  | false => exact ⟨by simp, by simpa using h.shut ho, by simp⟩
  | true =>
    simp only [Bool.true_and]
    have ne : ∀ {a b : Bs}, a ≠ b → q.is 5 a = true → q.is 5 b = false := fun hab ha => by
      cases hb : q.is 5 _ with
      | false => rfl
      | true => exact absurd (Rf.is_eq ha hb).2 hab
    cases h1 : q.is 5 [61] with
    | true =>
      rw [ne (b := [33, 61]) (by decide) h1, ne (b := [60]) (by decide) h1, ne (b := [60, 61]) (by decide) h1]
      exact ⟨by simp, by simpa using h.step, by simp⟩
    | false =>
      cases h2 : q.is 5 [33, 61] with
      | true =>
        rw [ne (b := [60]) (by decide) h2, ne (b := [60, 61]) (by decide) h2]
        exact ⟨by simp, by simpa using h.step, by simp⟩
      | false =>
        cases h3 : q.is 5 [60] with
        | true =>
          rw [ne (b := [60, 61]) (by decide) h3]
          exact ⟨by simp, by simpa using h.step, by simp⟩
        | false =>
          cases h4 : q.is 5 [60, 61] with
          | true => exact ⟨by simp, by simpa using h.step, by simp⟩
          | false => exact ⟨by simp, by simpa using h.fail, by simp⟩
end Go.PV
namespace Go.PV
open Go
theorem Rd.shut_open {r : Rd} (h : r.over = true) : r.isOpen = false := by unfold Rd.isOpen; rw [h]; simp
theorem Rd.expr_shut {r : Rd} (h : r.isOpen = false) : r.expr = ([], r) := by unfold Rd.expr; rw [h]; rfl
theorem Rd.way_shut {r : Rd} (h : r.isOpen = false) : r.way = (0, r) := by unfold Rd.way Rd.see; rw [h]; rfl
theorem Rd.want_shut {r : Rd} (h : r.isOpen = false) (k : Int) (t : Bs) : r.want k t = r := by unfold Rd.want Rd.see; rw [h]; rfl
theorem Rf.take_ok2 {q : Rf} {k : Int} {s : Bs} (h : (q.take k s).ok = true) : q.ok = true ∧ q.take k s = q.step := by
  unfold Rf.take at *
  split
  · rename_i h1
    simp only [Bool.and_eq_true] at h1
    exact ⟨h1.1, rfl⟩
  · rename_i h1
    rw [if_neg h1] at h
    cases h
theorem condOk_l {w : Int} {a b : List Stp} (h : exprOk a = false ∨ exprOk b = false) : condOk ⟨3, zeroA, w, a, b⟩ = false := by
  unfold condOk guardOk
  rcases h with h | h <;> simp [h]
theorem cond_sim {r : Rd} {q : Rf} (h : Sim r q) (ho : q.ok = true) :
    (r.condR.2.over = true ∧ q.condF.2.1 = true) ∨
    (q.condF.2.1 = false ∧ Sim r.condR.2 q.condF.2.2 ∧ (q.condF.2.2.ok = true → q.i < q.condF.2.2.i ∧
      ((condOk q.condF.1 = false ∧ r.condR.2.wrong = true) ∨ (q.condF.1 = r.condR.1 ∧ r.condR.2.wrong = r.wrong)))) := by
  unfold Rd.condR Rf.condF
  rw [h.see (k := 5) (s := [91]) (by decide +kernel), h.see (k := 1) (s := [110, 111, 116]) (by decide +kernel), ho]
  simp only [Bool.true_and]
  cases hn : q.is 1 [110, 111, 116] with
  | true =>
    have hb : q.is 5 [91] = false := by
      cases hb : q.is 5 [91] with
      | false => rfl
      | true => exact absurd (Rf.is_eq hn hb).1 (by decide)
    rw [hb]
    simp only [Bool.false_eq_true, if_false, if_true]
    obtain ⟨h1, h2⟩ := atom_sim h.step
    refine .inr ⟨trivial, h1, fun hk => ?_⟩
    obtain ⟨h3, h4⟩ := h2 hk
    refine ⟨Nat.lt_of_succ_lt h3, ?_⟩
    rcases h4 with ⟨h4, h5⟩ | ⟨h4, h5⟩
    · exact .inl ⟨by unfold condOk; simp [h4], h5⟩
    · exact .inr ⟨by rw [h4], h5⟩
  | false =>
    cases hb : q.is 5 [91] with
    | false =>
      simp only [Bool.false_eq_true, if_false]
      obtain ⟨h1, h2⟩ := atom_sim h
      refine .inr ⟨trivial, h1, fun hk => ?_⟩
      obtain ⟨h3, h4⟩ := h2 hk
      refine ⟨h3, ?_⟩
      rcases h4 with ⟨h4, h5⟩ | ⟨h4, h5⟩
      · exact .inl ⟨by unfold condOk; simp [h4], h5⟩
      · exact .inr ⟨by rw [h4], h5⟩
    | true =>
      simp only [Bool.false_eq_true, if_false, if_true]
      have hq := exprO_sim h.step (q := q.step) ho
      rcases hq with ⟨a1, a2⟩ | ⟨a1, a2, a3⟩
      · have hs := Rd.shut_open a1
        rw [a2, Rd.way_shut hs]
        simp only [if_true]
        rw [Rd.expr_shut hs]
        simp only
        rw [Rd.want_shut hs]
        exact .inl ⟨a1, trivial⟩
      · rw [a1]
        simp only [Bool.false_eq_true, if_false]
        generalize hx : r.step.expr = x at *
        generalize hy : q.step.exprO = y at *
        obtain ⟨w1, w2, w3⟩ := way_sim a2
        have w4 := Rd.way_w x.2
        by_cases hw : y.2.2.wayF = 0
        · rw [if_pos hw] at w2
          rw [if_pos hw]
          have hs : x.2.way.2.isOpen = false := w2.isOpen
          rw [Rd.expr_shut hs]
          simp only [Rf.fail, Bool.false_eq_true, if_false]
          refine .inr ⟨trivial, w2.want (by decide +kernel), fun hk => ?_⟩
          have := (Rf.take_ok2 hk).1
          cases this
        · rw [if_neg hw] at w2
          rw [if_neg hw, w3 hw]
          simp only [if_true]
          rcases exprO_sim w2 (q := y.2.2.step) (w3 hw) with ⟨b1, b2⟩ | ⟨b1, b2, b3⟩
          · rw [b2]
            simp only [if_true]
            rw [Rd.want_shut (Rd.shut_open b1)]
            exact .inl ⟨b1, trivial⟩
          · rw [b1]
            simp only [Bool.false_eq_true, if_false]
            refine .inr ⟨trivial, b2.want (by decide +kernel), fun hk => ?_⟩
            obtain ⟨k1, k2⟩ := Rf.take_ok2 hk
            obtain ⟨c1, c2, c3, c4⟩ := a3 (w3 hw)
            obtain ⟨d1, d2, d3, d4⟩ := b3 k1
            have e1 : q.step.i = q.i + 1 := rfl
            have e2 : y.2.2.step.i = y.2.2.i + 1 := rfl
            have e3 : ∀ z : Rf, z.step.i = z.i + 1 := fun _ => rfl
            refine ⟨by rw [k2, e3]; omega, ?_⟩
            rw [Rd.want_w]
            rcases c4 with ⟨c4, c5⟩ | c4
            · exact .inl ⟨condOk_l (.inl c4), Rd.expr_w (by rw [w4, c5])⟩
            · rcases d4 with ⟨d4, d5⟩ | d4
              · exact .inl ⟨condOk_l (.inr d4), d5⟩
              · exact .inr ⟨by rw [c1, d1, w1], by rw [d4, w4, c4]; rfl⟩
end Go.PV
namespace Go.PV
open Go
def ItemSim {α : Type} (P : α → Bool) (g : Rd → α × Rd) (g' : Rf → α × Bool × Rf) : Prop := ∀ {r : Rd} {q : Rf}, Sim r q → q.ok = true →
    ((g r).2.over = true ∧ (g' q).2.1 = true) ∨
    ((g' q).2.1 = false ∧ Sim (g r).2 (g' q).2.2 ∧ ((g' q).2.2.ok = true → q.i < (g' q).2.2.i ∧
      ((P (g' q).1 = false ∧ ((g r).2.wrong = true ∨ P (g r).1 = false)) ∨ ((g' q).1 = (g r).1 ∧ (g r).2.wrong = r.wrong))))
theorem cond_item : ItemSim condOk Rd.condR Rf.condF := fun h ho => by
  rcases cond_sim h ho with h | ⟨h1, h2, h3⟩
  · exact .inl h
  · refine .inr ⟨h1, h2, fun hk => ?_⟩
    obtain ⟨c, d⟩ := h3 hk
    refine ⟨c, ?_⟩
    rcases d with d | d
    · exact .inl ⟨d.1, .inl d.2⟩
    · exact .inr d
theorem many_shut {α : Type} {g : Rd → α × Rd} (n : Nat) {r : Rd} (h : r.isOpen = false) : Rd.many g n r = ([], r) := by
  cases n with
  | zero => rfl
  | succ n => unfold Rd.many Rd.see; rw [h]; rfl
theorem many_w {α : Type} {g : Rd → α × Rd} (hg : ∀ r : Rd, r.wrong = true → (g r).2.wrong = true) : ∀ (n : Nat) {r : Rd}, r.wrong = true → (Rd.many g n r).2.wrong = true
  | 0, r, h => h
  | n + 1, r, h => by
    unfold Rd.many
    split
    · exact many_w hg n (hg _ h)
    · exact h
theorem loop_pre {α : Type} (g' : Rf → α × Bool × Rf) : ∀ (f : Nat) (q : Rf) (l : List α), ∃ t, (Rf.loopF g' f q l).1 = l ++ t
  | 0, q, l => ⟨[], by simp [Rf.loopF]⟩
  | f + 1, q, l => by
    rw [Rf.loopF]
    split
    · dsimp only
      split
      · exact ⟨[], by simp⟩
      · split
        · obtain ⟨t, ht⟩ := loop_pre g' f (g' q).2.2.step (l ++ [(g' q).1])
          exact ⟨(g' q).1 :: t, by rw [ht]; simp⟩
        · exact ⟨[(g' q).1], rfl⟩
    · exact ⟨[], by simp⟩
theorem loop_sim {α : Type} {P : α → Bool} {g : Rd → α × Rd} {g' : Rf → α × Bool × Rf} (hI : ItemSim P g g') (hg : ∀ r, (g r).2.l = r.l ∧ r.i ≤ (g r).2.i) (hw : ∀ r : Rd, r.wrong = true → (g r).2.wrong = true) :
    ∀ (f n : Nat) {r : Rd} {q : Rf} (l : List α), Sim r q → q.ok = true → q.l.length < f + q.i → q.l.length ≤ n + q.i → 1 ≤ f →
    ((Rd.many g n (g r).2).2.over = true ∧ (Rf.loopF g' f q l).2.1 = true) ∨
    ((Rf.loopF g' f q l).2.1 = false ∧ Sim (Rd.many g n (g r).2).2 (Rf.loopF g' f q l).2.2 ∧ ((Rf.loopF g' f q l).2.2.ok = true →
      (((Rf.loopF g' f q l).1.all P = false ∧ ((Rd.many g n (g r).2).2.wrong = true ∨ ((g r).1 :: (Rd.many g n (g r).2).1).all P = false)) ∨ ((Rf.loopF g' f q l).1 = l ++ (g r).1 :: (Rd.many g n (g r).2).1 ∧ (Rd.many g n (g r).2).2.wrong = r.wrong))))
  | 0, n, r, q, l, h, ho, hf, hn, h1 => absurd h1 (by decide)
  | f + 1, n, r, q, l, h, ho, hf, hn, h1 => by
    have hgl := hg r
    rw [Rf.loopF, if_pos ho]
    rcases hI h ho with ⟨a1, a2⟩ | ⟨a1, a2, a3⟩
    · dsimp only
      rw [many_shut n (Rd.shut_open a1), if_pos a2]
      exact .inl ⟨a1, rfl⟩
    · dsimp only
      rw [if_neg (by rw [a1]; simp)]
      have hs := a2.see (k := 5) (s := [44]) (by decide +kernel)
      generalize hx : g r = x at *
      generalize hy : g' q = y at *
      cases hc : (y.2.2.ok && y.2.2.is 5 [44]) with
      | false =>
        rw [hc] at hs
        have hm : Rd.many g n x.2 = ([], x.2) := by
          cases n with
          | zero => rfl
          | succ n => unfold Rd.many; rw [hs]; rfl
        rw [hm]
        simp only [Bool.false_eq_true, if_false]
        refine .inr ⟨trivial, a2, fun hk => ?_⟩
        obtain ⟨b1, b2⟩ := a3 hk
        rcases b2 with ⟨b2, b3⟩ | ⟨b2, b3⟩
        · exact .inl ⟨by simp [b2], b3.imp id fun e => by simp [e]⟩
        · exact .inr ⟨by rw [b2], b3⟩
      | true =>
        rw [hc] at hs
        simp only [Bool.and_eq_true] at hc
        obtain ⟨b1, b2⟩ := a3 hc.1
        have hlt := Rf.is_up hc.2
        have el : y.2.2.l = q.l := by rw [← a2.l, hgl.1, h.l]
        rw [el] at hlt
        obtain ⟨n, rfl⟩ : ∃ k, n = k + 1 := ⟨n - 1, by omega⟩
        have hm : Rd.many g (n + 1) x.2 = ((g x.2.step).1 :: (Rd.many g n (g x.2.step).2).1, (Rd.many g n (g x.2.step).2).2) := by
          rw [Rd.many, hs]; rfl
        rw [hm]
        simp only [if_true]
        have e1 : y.2.2.step.i = y.2.2.i + 1 := rfl
        have e2 : y.2.2.step.l = q.l := el
        have ih := loop_sim hI hg hw f n (r := x.2.step) (q := y.2.2.step) (l ++ [y.1]) a2.step hc.1 (by rw [e2, e1]; omega) (by rw [e2, e1]; omega) (by omega)
        rcases ih with ih | ⟨c1, c2, c3⟩
        · exact .inl ih
        · refine .inr ⟨c1, c2, fun hk => ?_⟩
          have c3 := c3 hk
          have hww : x.2.step.wrong = x.2.wrong := rfl
          rcases b2 with ⟨b2, b3⟩ | ⟨b2, b3⟩
          · obtain ⟨t, ht⟩ := loop_pre g' f y.2.2.step (l ++ [y.1])
            exact .inl ⟨by rw [ht]; simp [b2], b3.imp (fun e => many_w hw n (hw _ e)) fun e => by simp [e]⟩
          · rcases c3 with c3 | ⟨c3, c4⟩
            · exact .inl ⟨c3.1, c3.2.imp id fun e => by rw [List.all_cons, e, Bool.and_false]⟩
            · exact .inr ⟨by rw [c3, b2]; simp, by rw [c4, hww, b3]⟩
theorem args_eq : ∀ (f : Nat) (q : Rf) (l : List (List Stp)), q.ok = true → Rf.argsF f q l = Rf.loopF Rf.exprO f q.step l
  | 0, q, l, _ => rfl
  | f + 1, q, l, h => by
    rw [Rf.argsF, Rf.loopF, if_pos (show q.step.ok = true from h)]
    dsimp only
    split
    · rfl
    · split
      · rename_i hc
        simp only [Bool.and_eq_true] at hc
        exact args_eq f _ _ hc.1
      · rfl
theorem expr_item : ItemSim exprOk Rd.expr Rf.exprO := fun h ho => by
  rcases exprO_sim h ho with h | ⟨h1, h2, h3⟩
  · exact .inl h
  · refine .inr ⟨h1, h2, fun hk => ?_⟩
    obtain ⟨a, b, c, d⟩ := h3 hk
    refine ⟨c, ?_⟩
    rcases d with d | d
    · exact .inl ⟨d.1, .inl d.2⟩
    · exact .inr ⟨a, d⟩
end Go.PV
namespace Go.PV
open Go
theorem num_ok {q : Rf} (h : q.num.2.ok = true) : ∃ t, q.tok = some t ∧ t.k = 3 ∧ q.num = ((refNumS t.t).getD 0, q.step) := by
  unfold Rf.num at *
  cases ht : q.tok with
  | none => rw [ht] at h; cases h
  | some t =>
    rw [ht] at h
    dsimp only at h ⊢
    by_cases hc : q.ok = true ∧ t.k = 3 
    · exact ⟨t, rfl, hc.2, by rw [if_pos hc]⟩
    · rw [if_neg hc] at h; cases h
theorem drop_sim {r : Rd} {q : Rf} (h : Sim r q) (ho : q.ok = true) :
    Sim (if r.num.2.isOpen && decide (r.num.1 < 0) then r.num.2.back else r.num.2) (if q.negF then q.fail else q).num.2 ∧
    ((if q.negF then q.fail else q).num.2.ok = true → (if q.negF then q.fail else q).num.1 = r.num.1 ∧ q.i < (if q.negF then q.fail else q).num.2.i) := by
  obtain ⟨h1, h2⟩ := h.num
  cases hn : q.negF with
  | true =>
    rw [if_pos rfl]
    unfold Rf.negF at hn
    cases ht : q.tok with
    | none => rw [ht] at hn; cases hn
    | some t =>
      rw [ht] at hn
      simp only [Bool.and_eq_true, decide_eq_true_eq] at hn
      have e : q.num = ((refNumS t.t).getD 0, q.step) := by unfold Rf.num; rw [ht]; dsimp only; rw [if_pos ⟨ho, hn.1⟩]
      have e2 : q.fail.num = (0, q.fail) := by
        have : q.fail.tok = q.tok := rfl
        unfold Rf.num; rw [this, ht]; dsimp only; rw [if_neg (by simp [Rf.fail])]; rfl
      rw [e] at h1 h2
      rw [e2, h2.isOpen, h1]
      have : ((q.step.ok && decide ((refNumS t.t).getD 0 < 0)) = true) := by simp [hn.2]; exact ho
      rw [if_pos this]
      refine ⟨⟨h2.l, ?_, h2.over, rfl⟩, fun hk => by cases hk⟩
      show r.num.2.i - 1 = q.i
      rw [h2.i]
      rfl
  | false =>
    simp only [Bool.false_eq_true, if_false]
    have : (r.num.2.isOpen && decide (r.num.1 < 0)) = false := by
      cases hk : q.num.2.ok with
      | false => rw [h2.isOpen, hk]; rfl
      | true =>
        obtain ⟨t, t1, t2, t3⟩ := num_ok hk
        unfold Rf.negF at hn
        rw [t1] at hn
        simp [t2] at hn
        rw [h1, t3]
        simp [hn]
    rw [this]
    refine ⟨by simpa using h2, fun hk => ⟨h1.symm, ?_⟩⟩
    obtain ⟨t, t1, t2, t3⟩ := num_ok hk
    rw [t3]
    exact Nat.lt_succ_self _
end Go.PV
namespace Go.PV
open Go
theorem actOk_n {m : Int} {n : Bs} {a : List (List Stp)} (h : a.all exprOk = false ∨ 5 < a.length) : actOk m ⟨1, n, a, 0⟩ = false := by
  unfold actOk
  rw [if_pos rfl]
  rcases h with h | h
  · simp [h]
  · rw [decide_eq_false (by omega : ¬ a.length ≤ 5)]; simp
theorem act_item (m : Int) : ItemSim (actOk m) Rd.actR Rf.actF := by
  intro r q h ho
  unfold Rd.actR Rf.actF
  rw [h.see (k := 1) (s := [100, 114, 111, 112]) (by decide +kernel), ho, Bool.true_and]
  cases hd : q.is 1 [100, 114, 111, 112] with
  | true =>
    simp only [if_true]
    obtain ⟨h1, h2⟩ := drop_sim h.step (q := q.step) ho
    refine .inr ⟨trivial, h1, fun hk => ?_⟩
    obtain ⟨h3, h4⟩ := h2 hk
    refine ⟨Nat.lt_of_succ_lt h4, .inr ⟨by rw [h3], ?_⟩⟩
    have hb : ∀ x : Rd, x.back.wrong = x.wrong := fun _ => rfl
    split
    · rw [hb, Rd.num_w]; rfl
    · rw [Rd.num_w]; rfl
  | false =>
    simp only [Bool.false_eq_true, if_false]
    obtain ⟨e1, e2⟩ := (h.want (k := 5) (s := [43]) (by decide +kernel)).name
    have ew : (r.want 5 [43]).name.2.wrong = r.wrong := by rw [Rd.name_w, Rd.want_w]
    have eu := Rf.name_up (q := q.take 5 [43])
    have eg := Rf.take_l q 5 [43]
    have el := Rf.name_l (q.take 5 [43])
    rw [e2.see (k := 5) (s := [40]) (by decide +kernel), e1]
    generalize hx : (r.want 5 [43]).name = x at *
    generalize hy : (q.take 5 [43]).name = y at *
    cases hc : (y.2.ok && y.2.is 5 [40]) with
    | false =>
      simp only [Bool.false_eq_true, if_false]
      refine .inr ⟨trivial, e2, fun hk => ⟨by have := eu hk; omega, .inr ⟨trivial, ew⟩⟩⟩
    | true =>
      simp only [if_true]
      simp only [Bool.and_eq_true] at hc
      rw [args_eq _ _ _ hc.1]
      have hyi := eu hc.1
      have hyl : y.2.l = q.l := by rw [el.1, eg.1]
      have e3 : y.2.step.l = q.l := hyl
      have e4 : y.2.step.i = y.2.i + 1 := rfl
      have hL := loop_sim expr_item Rd.expr_l (fun r h => Rd.expr_w h) (q.l.length + 1) r.l.length [] e2.step hc.1 (by rw [e3]; omega) (by rw [e3, h.l]; omega) (by omega)
      rcases hL with ⟨a1, a2⟩ | ⟨a1, a2, a3⟩
      · rw [a2]
        simp only [if_true]
        rw [Rd.want_shut (Rd.shut_open a1)]
        exact .inl ⟨a1, trivial⟩
      · rw [a1]
        simp only [Bool.false_eq_true, if_false]
        refine .inr ⟨trivial, a2.want (by decide +kernel), fun hk => ?_⟩
        obtain ⟨k1, k2⟩ := Rf.take_ok2 hk
        have b3 := a3 k1
        have m1 := (Rd.many_l Rd.expr_l r.l.length x.2.step.expr.2).2
        have m2 := (Rd.expr_l x.2.step).2
        have m3 : x.2.step.i = x.2.i + 1 := rfl
        have m4 := a2.i
        have m5 := e2.i
        have m6 : ∀ z : Rf, z.step.i = z.i + 1 := fun _ => rfl
        have m7 : x.2.step.wrong = x.2.wrong := rfl
        generalize Rf.loopF Rf.exprO (q.l.length + 1) y.2.step [] = L at *
        generalize Rd.many Rd.expr r.l.length x.2.step.expr.2 = M at *
        refine ⟨by rw [k2, m6]; omega, ?_⟩
        rw [Rd.want_w]
        rcases b3 with ⟨b3, b4⟩ | ⟨b3, b4⟩
        · refine .inl ⟨actOk_n (.inl b3), b4.imp id fun e => ?_⟩
          by_cases hl : 5 < (x.2.step.expr.1 :: M.1).length
          · exact actOk_n (.inr (by rw [List.length_take]; omega))
          · rw [List.take_of_length_le (by omega)]
            exact actOk_n (.inl e)
        · by_cases hl : 5 < (x.2.step.expr.1 :: M.1).length
          · refine .inl ⟨actOk_n (.inr (by rw [b3, List.nil_append]; exact hl)), .inr (actOk_n (.inr (by rw [List.length_take]; omega)))⟩
          · refine .inr ⟨by rw [b3, List.nil_append, List.take_of_length_le (by omega)], by rw [b4, m7, ew]⟩
end Go.PV
namespace Go.PV
open Go
theorem Rd.name_shut {r : Rd} (h : r.isOpen = false) : r.name.2 = r := by unfold Rd.name; rw [h]; rfl
theorem Rd.num_shut {r : Rd} (h : r.isOpen = false) : r.num.2 = r := by unfold Rd.num; rw [h]; rfl
theorem Rd.see_shut {r : Rd} (h : r.isOpen = false) (k : Int) (t : Bs) : r.see k t = false := by unfold Rd.see; rw [h]; rfl
theorem Rd.atom_shut {r : Rd} (h : r.isOpen = false) : r.atom.2 = r := by
  unfold Rd.atom
  dsimp only
  rw [Rd.name_shut h, Rd.see_shut h]
  rfl
theorem Rd.condR_shut {r : Rd} (h : r.isOpen = false) : r.condR.2 = r := by
  unfold Rd.condR
  rw [Rd.see_shut h, Rd.see_shut h]
  exact Rd.atom_shut h
theorem Rd.actR_shut {r : Rd} (h : r.isOpen = false) : r.actR.2 = r := by
  unfold Rd.actR
  rw [Rd.see_shut h]
  dsimp only
  rw [Rd.want_shut h, Rd.name_shut h, Rd.see_shut h]
  rfl
theorem Rf.loop_shut {α : Type} (g : Rf → α × Bool × Rf) (f : Nat) {q : Rf} (h : q.ok = false) (l : List α) : Rf.loopF g (f + 1) q l = (l, false, q) := by
  rw [Rf.loopF, if_neg (by rw [h]; simp)]
end Go.PV
namespace Go.PV
open Go
theorem condR_w (r : Rd) (h : r.wrong = true) : r.condR.2.wrong = true := by
  unfold Rd.condR
  split
  · dsimp only
    rw [Rd.want_w]
    exact Rd.expr_w (by rw [Rd.way_w]; exact Rd.expr_w h)
  · split
    · exact Rd.atom_w h
    · exact Rd.atom_w h
theorem actR_w (r : Rd) (h : r.wrong = true) : r.actR.2.wrong = true := by
  unfold Rd.actR
  split
  · dsimp only
    have hb : ∀ x : Rd, x.back.wrong = x.wrong := fun _ => rfl
    split
    · rw [hb, Rd.num_w]; exact h
    · rw [Rd.num_w]; exact h
  · dsimp only
    split
    · dsimp only
      rw [Rd.want_w]
      refine many_w (fun r h => Rd.expr_w h) _ (Rd.expr_w ?_)
      show (Rd.name _).2.wrong = true
      rw [Rd.name_w, Rd.want_w, h]
    · dsimp only
      rw [Rd.name_w, Rd.want_w, h]
end Go.PV
namespace Go.PV
open Go
/-- the lists of items, from where both stand alike, open or not -/
theorem items_sim {α : Type} {P : α → Bool} {g : Rd → α × Rd} {g' : Rf → α × Bool × Rf} (hI : ItemSim P g g') (hg : ∀ r, (g r).2.l = r.l ∧ r.i ≤ (g r).2.i) (hw : ∀ r : Rd, r.wrong = true → (g r).2.wrong = true) (hs : ∀ {r : Rd}, r.isOpen = false → (g r).2 = r)
    {r : Rd} {q : Rf} (h : Sim r q) (n f : Nat) (hn : q.l.length ≤ n + q.i) (hf : q.l.length ≤ f + q.i) :
    ((Rd.many g n (g r).2).2.over = true ∧ (Rf.loopF g' (f + 1) q []).2.1 = true) ∨
    ((Rf.loopF g' (f + 1) q []).2.1 = false ∧ Sim (Rd.many g n (g r).2).2 (Rf.loopF g' (f + 1) q []).2.2 ∧ ((Rf.loopF g' (f + 1) q []).2.2.ok = true →
      q.ok = true ∧ (((Rf.loopF g' (f + 1) q []).1.all P = false ∧ ((Rd.many g n (g r).2).2.wrong = true ∨ ((g r).1 :: (Rd.many g n (g r).2).1).all P = false)) ∨ ((Rf.loopF g' (f + 1) q []).1 = (g r).1 :: (Rd.many g n (g r).2).1 ∧ (Rd.many g n (g r).2).2.wrong = r.wrong)))) := by
  cases ho : q.ok with
  | false =>
    rw [hs (by rw [h.isOpen, ho]), many_shut n (by rw [h.isOpen, ho]), Rf.loop_shut g' f ho]
    exact .inr ⟨rfl, h, fun hk => by rw [ho] at hk; cases hk⟩
  | true =>
    rcases loop_sim hI hg hw (f + 1) n [] h ho (by omega) hn (by omega) with a | ⟨a, b, c⟩
    · exact .inl a
    · exact .inr ⟨a, b, fun hk => ⟨rfl, c hk⟩⟩
end Go.PV
namespace Go.PV
open Go
theorem ruleOk_lc {n : Bs} {p : Int} {c : List Cnd} {a : List Act} (h : 6 < c.length) : ruleOk ⟨n, p, c, a⟩ = false := by
  unfold ruleOk
  rw [show decide (1 ≤ c.length ∧ c.length ≤ 6) = false from decide_eq_false (by omega)]
  simp
theorem ruleOk_la {n : Bs} {p : Int} {c : List Cnd} {a : List Act} (h : 6 < a.length) : ruleOk ⟨n, p, c, a⟩ = false := by
  unfold ruleOk
  rw [show decide (1 ≤ a.length ∧ a.length ≤ 6) = false from decide_eq_false (by omega)]
  simp
theorem ruleOk_c {n : Bs} {p : Int} {c : List Cnd} {a : List Act} (h : c.all condOk = false) : ruleOk ⟨n, p, c, a⟩ = false := by
  unfold ruleOk
  rw [show (⟨n, p, c, a⟩ : Rul).c = c from rfl, h]
  simp
theorem ruleOk_a {n : Bs} {p : Int} {c : List Cnd} {a : List Act} (h : a.all (actOk (hasN c)) = false) : ruleOk ⟨n, p, c, a⟩ = false := by
  unfold ruleOk
  rw [show (⟨n, p, c, a⟩ : Rul).a = a from rfl, show (⟨n, p, c, a⟩ : Rul).c = c from rfl, h]
  simp
theorem ruleOk_tc {n : Bs} {p : Int} {c : List Cnd} {a : List Act} (h : c.all condOk = false) : ruleOk ⟨n, p, c.take 7, a⟩ = false := by
  by_cases hl : 6 < c.length
  · exact ruleOk_lc (by rw [List.length_take]; omega)
  · rw [List.take_of_length_le (by omega)]; exact ruleOk_c h
theorem ruleOk_ta {n : Bs} {p : Int} {c : List Cnd} {a : List Act} (h : a.all (actOk (hasN c)) = false) : ruleOk ⟨n, p, c.take 7, a.take 7⟩ = false := by
  by_cases hl : 6 < c.length
  · exact ruleOk_lc (by rw [List.length_take]; omega)
  · rw [List.take_of_length_le (by omega : c.length ≤ 7)]
    by_cases hk : 6 < a.length
    · exact ruleOk_la (by rw [List.length_take]; omega)
    · rw [List.take_of_length_le (by omega)]; exact ruleOk_a h
theorem rule_sim {r : Rd} {q : Rf} (h : Sim r q) :
    (r.rule.2.over = true ∧ q.ruleF.2.1 = true) ∨
    (q.ruleF.2.1 = false ∧ Sim r.rule.2 q.ruleF.2.2 ∧ (q.ruleF.2.2.ok = true →
      ((ruleOk q.ruleF.1 = false ∧ (r.rule.2.wrong = true ∨ ruleOk r.rule.1 = false)) ∨ (q.ruleF.1 = r.rule.1 ∧ r.rule.2.wrong = r.wrong)))) := by
  unfold Rd.rule Rf.ruleF Rf.condsF Rf.actsF
  obtain ⟨a1, a2⟩ := (h.want (k := 1) (s := [114, 117, 108, 101]) (by decide +kernel)).name
  obtain ⟨b1, b2⟩ := a2.num
  have c0 := b2.want (k := 5) (s := [58]) (by decide +kernel)
  have hl : ((q.take 1 [114, 117, 108, 101]).name.2.num.2.take 5 [58]).l = q.l := by
    rw [(Rf.take_l _ _ _).1, (Rf.num_l _).1, (Rf.name_l _).1, (Rf.take_l _ _ _).1]
  have hw0 : ((r.want 1 [114, 117, 108, 101]).name.2.num.2.want 5 [58]).wrong = r.wrong := by
    rw [Rd.want_w, Rd.num_w, Rd.name_w, Rd.want_w]
  have hc := items_sim cond_item Rd.condR_l condR_w (fun h => Rd.condR_shut h) c0 r.l.length q.l.length (by rw [hl, h.l]; omega) (by rw [hl]; omega)
  dsimp only
  have hl1 : ((r.want 1 [114, 117, 108, 101]).name.2.num.2.want 5 [58]).l = r.l := by rw [c0.l, hl, h.l]
  have hl2 : (Rd.many Rd.condR r.l.length ((r.want 1 [114, 117, 108, 101]).name.2.num.2.want 5 [58]).condR.2).2.l = r.l := by
    rw [(Rd.many_l Rd.condR_l _ _).1, (Rd.condR_l _).1, hl1]
  rw [a1, b1]
  generalize (r.want 1 [114, 117, 108, 101]).name.2.num.2.want 5 [58] = R0 at *
  generalize (q.take 1 [114, 117, 108, 101]).name.2.num.2.take 5 [58] = Q0 at *
  generalize Rd.many Rd.condR r.l.length R0.condR.2 = M at *
  generalize R0.condR.1 = M0 at *
  generalize Rf.loopF Rf.condF (q.l.length + 1) Q0 [] = N at *
  generalize (q.take 1 [114, 117, 108, 101]).name.2.num.1 = p at *
  generalize (q.take 1 [114, 117, 108, 101]).name.1 = nm at *
  rcases hc with ⟨d1, d2⟩ | ⟨d1, d2, d3⟩
  · rw [d2]
    simp only [if_true]
    have hs := Rd.shut_open d1
    rw [Rd.want_shut hs, Rd.actR_shut hs, many_shut _ hs]
    dsimp only
    rw [Rd.want_shut hs]
    exact .inl ⟨d1, trivial⟩
  · rw [d1]
    simp only [Bool.false_eq_true, if_false]
    have e0 := d2.want (k := 5) (s := [45, 62]) (by decide +kernel)
    have hl3 : (N.2.2.take 5 [45, 62]).l = q.l := by rw [← e0.l, Rd.want_l _ _ _ |>.1, hl2, h.l]
    have hA := items_sim (act_item (hasN N.1)) Rd.actR_l actR_w (fun h => Rd.actR_shut h) e0 r.l.length q.l.length (by rw [hl3, h.l]; omega) (by rw [hl3]; omega)
    have hw1 : (M.2.want 5 [45, 62]).wrong = M.2.wrong := Rd.want_w _ _ _
    have hok : (N.2.2.take 5 [45, 62]).ok = true → N.2.2.ok = true := fun hk => (Rf.take_ok2 hk).1
    have hww : M.2.wrong = true → (Rd.many Rd.actR r.l.length (M.2.want 5 [45, 62]).actR.2).2.wrong = true := fun e => many_w actR_w _ (actR_w _ (by rw [hw1, e]))
    generalize M.2.want 5 [45, 62] = R1 at *
    generalize N.2.2.take 5 [45, 62] = Q1 at *
    generalize Rd.many Rd.actR r.l.length R1.actR.2 = A at *
    generalize R1.actR.1 = A0 at *
    generalize Rf.loopF Rf.actF (q.l.length + 1) Q1 [] = B at *
    rcases hA with ⟨f1, f2⟩ | ⟨f1, f2, f3⟩
    · rw [f2]
      simp only [if_true]
      rw [Rd.want_shut (Rd.shut_open f1)]
      exact .inl ⟨f1, trivial⟩
    · rw [f1]
      simp only [Bool.false_eq_true, if_false]
      refine .inr ⟨trivial, f2.want (by decide +kernel), fun hk => ?_⟩
      obtain ⟨g1, g2⟩ := f3 (Rf.take_ok2 hk).1
      obtain ⟨_, k2⟩ := d3 (hok g1)
      rw [Rd.want_w]
      rcases k2 with ⟨k2, k3⟩ | ⟨k2, k3⟩
      · refine .inl ⟨ruleOk_c k2, ?_⟩
        rcases k3 with k3 | k3
        · exact .inl (hww k3)
        · exact .inr (ruleOk_tc k3)
      · rw [k2] at g2 ⊢
        rcases g2 with ⟨g2, g3⟩ | ⟨g2, g3⟩
        · refine .inl ⟨ruleOk_a g2, ?_⟩
          rcases g3 with g3 | g3
          · exact .inl g3
          · exact .inr (ruleOk_ta g3)
        · rw [g2]
          by_cases hc : 6 < (M0 :: M.1).length
          · exact .inl ⟨ruleOk_lc hc, .inr (ruleOk_lc (by rw [List.length_take]; omega))⟩
          · by_cases ha : 6 < (A0 :: A.1).length
            · exact .inl ⟨ruleOk_la ha, .inr (ruleOk_la (by rw [List.length_take]; omega))⟩
            · refine .inr ⟨?_, by rw [g3, hw1, k3, hw0]⟩
              rw [List.take_of_length_le (by omega : (M0 :: M.1).length ≤ 7), List.take_of_length_le (by omega : (A0 :: A.1).length ≤ 7)]
end Go.PV
namespace Go.PV
open Go
/-- a reader's place is one of the list's; it is not bad and over at once -/
structure Iv (r : Rd) : Prop where
  le : r.i ≤ r.l.length
  nb : r.bad = true → r.over = false
namespace Iv
theorem step {r : Rd} (h : Iv r) (hs : r.i < r.l.length) : Iv r.step := ⟨hs, h.nb⟩
theorem fail {r : Rd} (h : Iv r) (ho : r.isOpen = true) : Iv r.fail := ⟨h.le, fun _ => by
  unfold Rd.isOpen at ho; simp at ho; exact ho.2⟩
theorem wrong {r : Rd} (h : Iv r) (b : Bool) : Iv { r with wrong := b } := ⟨h.le, h.nb⟩
theorem see {r : Rd} (h : Iv r) {k : Int} {t : Bs} (hs : r.see k t = true) : Iv r.step := h.step (Rd.cur_lt (Rd.see_open hs).2)
theorem want {r : Rd} (h : Iv r) (k : Int) (t : Bs) : Iv (r.want k t) := by
  unfold Rd.want
  split
  · rename_i hs; exact h.see hs
  · split
    · rename_i ho; exact h.fail ho
    · exact h
theorem name {r : Rd} (h : Iv r) : Iv r.name.2 := by
  unfold Rd.name
  split
  · rename_i ho
    split
    · rename_i x hx
      split
      · exact h.step (Rd.cur_lt hx)
      · exact h.fail ho
    · exact h.fail ho
  · exact h
theorem num {r : Rd} (h : Iv r) : Iv r.num.2 := by
  unfold Rd.num
  split
  · rename_i ho
    split
    · rename_i x hx
      split
      · exact h.step (Rd.cur_lt hx)
      · exact h.fail ho
    · exact h.fail ho
  · exact h
theorem term {r : Rd} (h : Iv r) : Iv r.term.2 := by
  unfold Rd.term
  split
  · rename_i ho
    split
    · rename_i t hx
      cases hc : r.cur with
      | none => rw [hc] at hx; cases hx
      | some x => exact h.step (Rd.cur_lt hc)
    · exact h.fail ho
  · exact h
theorem args : ∀ (f : Nat) {r : Rd}, Iv r → Iv (Rd.args f r).2
  | 0, _, h => h
  | f + 1, r, h => by
    unfold Rd.args
    split
    · rename_i hs; exact args f (h.see hs).term
    · exact h
theorem atom {r : Rd} (h : Iv r) : Iv r.atom.2 := by
  unfold Rd.atom
  dsimp only
  split
  · rename_i hs
    have hb : Iv r.name.2.brack.2 := ((h.name.see hs).term.args _).want _ _
    dsimp only
    split
    · exact hb.wrong true
    · exact hb
  · exact h.name
theorem reckons {r : Rd} (h : Iv r) : Iv r.reckons.2 := by
  unfold Rd.reckons
  split
  · rename_i hs; exact h.see hs
  · split
    · rename_i hs; exact h.see hs
    · split
      · rename_i hs; exact h.see hs
      · dsimp only
        split
        · rename_i ho; exact h.fail ho
        · exact h
theorem part : ∀ (n : Nat) {r : Rd}, Iv r → Iv (r.part n).2
  | 0, r, h => by
    unfold Rd.part
    split
    · rename_i hs
      have ho := (Rd.see_open hs).1
      refine ⟨(h.see hs).le, fun hb => ?_⟩
      unfold Rd.isOpen at ho
      simp at ho
      have : r.bad = true := hb
      rw [ho.1] at this; cases this
    · exact h.term
  | n + 1, r, h => by
    unfold Rd.part
    split
    · rename_i hs
      have h2 := (part n (h.see hs)).reckons
      dsimp only
      split
      · exact (part n h2).want _ _
      · exact h2
    · exact h.term
theorem expr {r : Rd} (h : Iv r) : Iv r.expr.2 := by
  unfold Rd.expr
  split
  · dsimp only
    split
    · exact (part 15 h).wrong true
    · exact part 15 h
  · exact h
theorem way {r : Rd} (h : Iv r) : Iv r.way.2 := by
  unfold Rd.way
  split
  · rename_i hs; exact h.see hs
  · split
    · rename_i hs; exact h.see hs
    · split
      · rename_i hs; exact h.see hs
      · split
        · rename_i hs; exact h.see hs
        · dsimp only
          split
          · rename_i ho; exact h.fail ho
          · exact h
theorem condR {r : Rd} (h : Iv r) : Iv r.condR.2 := by
  unfold Rd.condR
  split
  · rename_i hs; exact ((h.see hs).expr.way.expr).want _ _
  · split
    · rename_i hs; exact (h.see hs).atom
    · exact h.atom
theorem many {α : Type} {g : Rd → α × Rd} (hg : ∀ {r : Rd}, Iv r → Iv (g r).2) : ∀ (n : Nat) {r : Rd}, Iv r → Iv (Rd.many g n r).2
  | 0, _, h => h
  | n + 1, r, h => by
    unfold Rd.many
    split
    · rename_i hs; exact many hg n (hg (h.see hs))
    · exact h
theorem back {r : Rd} (h : Iv r) (ho : r.isOpen = true) : Iv r.back := ⟨by have := h.le; show r.i - 1 ≤ _; exact Nat.le_trans (Nat.sub_le _ _) this, fun _ => by
  unfold Rd.isOpen at ho; simp at ho; exact ho.2⟩
theorem actR {r : Rd} (h : Iv r) : Iv r.actR.2 := by
  unfold Rd.actR
  split
  · rename_i hs
    dsimp only
    split
    · rename_i hc
      simp only [Bool.and_eq_true] at hc
      exact (h.see hs).num.back hc.1
    · exact (h.see hs).num
  · dsimp only
    split
    · rename_i hs; exact (many expr _ ((h.want _ _).name.see hs).expr).want _ _
    · exact (h.want _ _).name
theorem rule {r : Rd} (h : Iv r) : Iv r.rule.2 := (many actR _ ((many condR _ (((h.want _ _).name.num.want _ _).condR)).want _ _).actR).want _ _
end Iv
/-- the page's ReadRule -/
def refReadR (l : List Tok) (i : Nat) : Rul × Nat × Int :=
  let x := (⟨l, i, true⟩ : Rf).ruleF
  if x.2.1 then (zeroR, i, 7) else if x.2.2.ok then (if ruleOk x.1 then (x.1, x.2.2.i, 0) else (zeroR, i, 7)) else (zeroR, x.2.2.i, 7)
theorem readR_ref {l : List Tok} {i : Nat} (hi : i ≤ l.length) : readR l i = refReadR l i := by
  have h : Sim (rd0 l i) ⟨l, i, true⟩ := ⟨rfl, rfl, rfl, rfl⟩
  have hv : Iv (rd0 l i) := ⟨hi, fun h => by cases h⟩
  have hv2 := hv.rule
  have hs := rule_sim h
  have hw : (rd0 l i).wrong = false := rfl
  rw [hw] at hs
  unfold readR refReadR Rd.endE Rd.endI
  dsimp only
  generalize (rd0 l i).rule = x at *
  generalize (⟨l, i, true⟩ : Rf).ruleF = y at *
  rcases hs with ⟨a, b⟩ | ⟨a, b, c⟩
  · have hb : x.2.bad = false := by
      cases hb : x.2.bad with
      | false => rfl
      | true => have := hv2.nb hb; rw [a] at this; cases this
    rw [b, a, hb]
    simp
  · have hxi := b.i
    rw [a, b.over, b.bad, if_neg (by simp : ¬ false = true)]
    cases ho : y.2.2.ok with
    | false =>
      have : min x.2.i x.2.l.length = y.2.2.i := by rw [Nat.min_eq_left hv2.le, hxi]
      simp [this]
    | true =>
      rcases c ho with ⟨c1, c2⟩ | ⟨c1, c2⟩
      · rw [c1]
        cases hwr : x.2.wrong with
        | true => simp
        | false =>
          rw [hwr] at c2
          simp only [Bool.false_eq_true, false_or] at c2
          simp [c2]
      · rw [c2, ← c1]
        simp [hxi]
end Go.PV
namespace Go.PV
open Go
/-! the page's readers keep their list; their place never falls -/
namespace Rf
theorem closeF_l : ∀ (st : List (Option Int)) (l : List Stp) (q : Rf), (closeF st l q).2.l = q.l ∧ q.i ≤ (closeF st l q).2.i
  | some k :: st, l, q => by
    have h := take_l q 5 [41]
    unfold closeF
    split
    · have h2 := closeF_l st (l ++ [⟨k, [], zeroV⟩]) (q.take 5 [41])
      exact ⟨h2.1.trans h.1, Nat.le_trans h.2 h2.2⟩
    · exact h
  | none :: st, l, q => ⟨rfl, Nat.le_refl _⟩
  | [], l, q => ⟨rfl, Nat.le_refl _⟩
theorem exprF_l : ∀ (f : Nat) (q : Rf) (st : List (Option Int)) (l : List Stp), (exprF f q st l).2.2.l = q.l ∧ q.i ≤ (exprF f q st l).2.2.i
  | 0, q, st, l => ⟨rfl, Nat.le_refl _⟩
  | f + 1, q, st, l => by
    unfold exprF
    split
    · split
      · split
        · exact ⟨rfl, Nat.le_succ _⟩
        · have h := exprF_l f q.step (none :: st) l
          exact ⟨h.1, Nat.le_trans (Nat.le_succ _) h.2⟩
      · have ht : q.term.2.l = q.l ∧ q.i ≤ q.term.2.i := ⟨(term_l q).1, (term_l q).2.1⟩
        split
        · unfold contF
          have hc := closeF_l st (l ++ [pushS q.term.1]) q.term.2
          split
          · rename_i q' e
            rw [e] at hc
            exact ⟨hc.1.trans ht.1, Nat.le_trans ht.2 hc.2⟩
          · rename_i q' e
            rw [e] at hc
            exact ⟨hc.1.trans ht.1, Nat.le_trans ht.2 hc.2⟩
          · rename_i k st' l' q' e
            rw [e] at hc
            split
            · rename_i j hj
              have h := exprF_l f q'.step (some j :: st') l'
              have e1 : q'.step.l = q'.l ∧ q'.step.i = q'.i + 1 := ⟨rfl, rfl⟩
              dsimp only at hc
              exact ⟨by rw [h.1, e1.1, hc.1, ht.1], by omega⟩
            · exact ⟨hc.1.trans ht.1, Nat.le_trans ht.2 hc.2⟩
        · exact ht
    · exact ⟨rfl, Nat.le_refl _⟩
theorem exprO_l (q : Rf) : q.exprO.2.2.l = q.l ∧ q.i ≤ q.exprO.2.2.i := exprF_l _ _ _ _
theorem args_l : ∀ (f : Nat) (q : Rf), (args f q).2.l = q.l ∧ q.i ≤ (args f q).2.i
  | 0, q => ⟨rfl, Nat.le_refl _⟩
  | f + 1, q => by
    unfold args
    split
    · have h := term_l q.step
      have h2 := args_l f q.step.term.2
      have e1 : q.step.l = q.l ∧ q.step.i = q.i + 1 := ⟨rfl, rfl⟩
      dsimp only
      exact ⟨by rw [h2.1, h.1, e1.1], by omega⟩
    · exact ⟨rfl, Nat.le_refl _⟩
theorem atom_l (q : Rf) : q.atom.2.l = q.l ∧ q.i ≤ q.atom.2.i := by
  unfold atom
  have h := name_l q
  split
  · dsimp only
    have h1 := term_l q.name.2.step
    have h2 := args_l q.name.2.l.length q.name.2.step.term.2
    have h3 := take_l (args q.name.2.l.length q.name.2.step.term.2).2 5 [41]
    have e1 : q.name.2.step.l = q.name.2.l ∧ q.name.2.step.i = q.name.2.i + 1 := ⟨rfl, rfl⟩
    exact ⟨by rw [h3.1, h2.1, h1.1, e1.1, h.1], by omega⟩
  · exact h
theorem condF_l (q : Rf) : q.condF.2.2.l = q.l ∧ q.i ≤ q.condF.2.2.i := by
  unfold condF
  have e1 : q.step.l = q.l ∧ q.step.i = q.i + 1 := ⟨rfl, rfl⟩
  split
  · have h := atom_l q.step
    exact ⟨h.1.trans e1.1, by dsimp only; omega⟩
  · split
    · have ha := exprO_l q.step
      dsimp only
      split
      · exact ⟨ha.1.trans e1.1, by dsimp only; omega⟩
      · have hp : ∀ (w : Int) (r : Rf), (if w = 0 then r.fail else r : Rf).l = r.l ∧ (if w = 0 then r.fail else r : Rf).i = r.i := fun w r => by split <;> exact ⟨rfl, rfl⟩
        obtain ⟨p1, p2⟩ := hp q.step.exprO.2.2.wayF q.step.exprO.2.2
        generalize (if q.step.exprO.2.2.wayF = 0 then q.step.exprO.2.2.fail else q.step.exprO.2.2) = p at *
        split
        · have hb := exprO_l p.step
          have e2 : p.step.l = p.l ∧ p.step.i = p.i + 1 := ⟨rfl, rfl⟩
          split
          · exact ⟨by dsimp only; rw [hb.1, e2.1, p1, ha.1, e1.1], by dsimp only; omega⟩
          · have hc := take_l p.step.exprO.2.2 5 [93]
            exact ⟨by dsimp only; rw [hc.1, hb.1, e2.1, p1, ha.1, e1.1], by dsimp only; omega⟩
        · have hc := take_l p 5 [93]
          exact ⟨by dsimp only; rw [hc.1, p1, ha.1, e1.1], by dsimp only; omega⟩
    · exact atom_l q
theorem argsF_l : ∀ (f : Nat) (q : Rf) (l : List (List Stp)), (argsF f q l).2.2.l = q.l ∧ q.i ≤ (argsF f q l).2.2.i
  | 0, q, l => ⟨rfl, Nat.le_succ _⟩
  | f + 1, q, l => by
    unfold argsF
    have h := exprO_l q.step
    have e1 : q.step.l = q.l ∧ q.step.i = q.i + 1 := ⟨rfl, rfl⟩
    dsimp only
    split
    · exact ⟨h.1.trans e1.1, by dsimp only; omega⟩
    · split
      · have h2 := argsF_l f q.step.exprO.2.2 (l ++ [q.step.exprO.1])
        exact ⟨by rw [h2.1, h.1, e1.1], by omega⟩
      · exact ⟨h.1.trans e1.1, by dsimp only; omega⟩
theorem actF_l (q : Rf) : q.actF.2.2.l = q.l ∧ q.i ≤ q.actF.2.2.i := by
  unfold actF
  have e1 : q.step.l = q.l ∧ q.step.i = q.i + 1 := ⟨rfl, rfl⟩
  split
  · dsimp only
    have hp : (if q.step.negF = true then q.step.fail else q.step : Rf).l = q.step.l ∧ (if q.step.negF = true then q.step.fail else q.step : Rf).i = q.step.i := by split <;> exact ⟨rfl, rfl⟩
    have hn := num_l (if q.step.negF = true then q.step.fail else q.step)
    exact ⟨by rw [hn.1, hp.1, e1.1], by omega⟩
  · have ht := take_l q 5 [43]
    have hn := name_l (q.take 5 [43])
    dsimp only
    split
    · have ha := argsF_l (q.l.length + 1) (q.take 5 [43]).name.2 []
      split
      · exact ⟨by dsimp only; rw [ha.1, hn.1, ht.1], by dsimp only; omega⟩
      · have hc := take_l (argsF (q.l.length + 1) (q.take 5 [43]).name.2 []).2.2 5 [41]
        exact ⟨by dsimp only; rw [hc.1, ha.1, hn.1, ht.1], by dsimp only; omega⟩
    · exact ⟨by dsimp only; rw [hn.1, ht.1], by dsimp only; omega⟩
end Rf
end Go.PV
namespace Go.PV
open Go Go.Proofs
set_option maxRecDepth 100000
def howL : List Bs := [[], [61], [33, 61], [60], [60, 61]]
def wayN (q : Rf) : Nat → Int
  | 0 => 0
  | j + 1 => if q.is 5 (howL.getD (j + 1) []) then ((j + 1 : Nat) : Int) else wayN q j
theorem wayN_4 (q : Rf) (h : q.ok = true) : wayN q 4 = q.wayF := by unfold Rf.wayF; rw [if_pos h]; rfl
theorem wayF_0 (q : Rf) (h : q.ok = false) : q.wayF = 0 := by unfold Rf.wayF; rw [if_neg (by rw [h]; simp)]
theorem wayF_ne {q : Rf} (h : ¬ q.wayF = 0) : q.ok = true ∧ q.i < q.l.length := by
  unfold Rf.wayF at h
  split at h
  · rename_i ho
    refine ⟨ho, ?_⟩
    split at h
    · rename_i hs; exact is_lt hs
    · split at h
      · rename_i hs; exact is_lt hs
      · split at h
        · rename_i hs; exact is_lt hs
        · split at h
          · rename_i hs; exact is_lt hs
          · exact absurd rfl h
  · exact absurd rfl h
theorem cndV_snoc (l : List Cnd) (c : Cnd) : cndV (l ++ [c]) = cndV l ++ [c.c] := List.map_append
theorem actV_snoc (l : List Act) (c : Act) : actV (l ++ [c]) = actV l ++ [c.c] := List.map_append
theorem opsV_snoc (l : List (List Stp)) (c : List Stp) : opsV (l ++ [c]) = opsV l ++ [[.sl 5 (stpV c)]] := List.map_append
theorem qruler_good (q0 : Rf) (hb : tokB q0.l) : Good Tryz.prog 114 [.ptr 0 0 0] [q0.ob] [.agg q0.ruleF.1.v, .bool q0.ruleF.2.1] [q0.ruleF.2.2.ob] := by
  have hl0 := hb.1
  refine good_of hP Tryz.func114 (by kernel_rfl) (lv := [0, 2, 3, 4, 5, 6, 7, 8, 9, 10, 11, 12, 14, 15, 32, 37, 51, 68, 81, 89, 94, 101, 115, 133, 149, 152, 171, 179, 198, 205, 218, 250]) (js := [100000, 100002, 100003, 100005, 152]) ⟨rfl, rfl, rfl, rfl, rfl, rfl, _, rfl, ?_⟩
  generalize hU : q0.ruleF = U
  unfold Rf.ruleF Rf.condsF Rf.actsF at hU
  dsimp only at hU
  conv => whnf
  refine callN [(0, 0)] (qtake_good q0 1 [114, 117, 108, 101] hb) ?_ 
  conv => whnf
  refine ⟨⟨⟩, rfl, ?_⟩
  have e0 := (Rf.take_l q0 1 [114, 117, 108, 101]).1
  have b0 : tokB (q0.take 1 [114, 117, 108, 101]).l := by rw [e0]; exact hb
  generalize q0.take 1 [114, 117, 108, 101] = v0 at *
  conv => whnf
  refine callN [(0, 0)] (qname_good v0 b0) ?_ 
  conv => whnf
  refine ⟨⟨⟩, rfl, ?_⟩
  have e1 := (Rf.name_l v0).1
  have b1 : tokB v0.name.2.l := by rw [e1]; exact b0
  generalize v0.name = v1 at *
  conv => whnf
  refine callN [(0, 0)] (qnum_good v1.2 b1) ?_ 
  conv => whnf
  refine ⟨⟨⟩, rfl, ?_⟩
  have e2 := (Rf.num_l v1.2).1
  have b2 : tokB v1.2.num.2.l := by rw [e2]; exact b1
  generalize v1.2.num = v2 at *
  conv => whnf
  refine callN [(0, 0)] (qtake_good v2.2 5 [58] b2) ?_ 
  conv => whnf
  refine ⟨⟨⟩, rfl, ?_⟩
  have e3 := (Rf.take_l v2.2 5 [58]).1
  have b3 : tokB (v2.2.take 5 [58]).l := by rw [e3]; exact b2
  have hl3 : (v2.2.take 5 [58]).l = q0.l := by rw [e3, e2, e1, e0]
  generalize v2.2.take 5 [58] = v3 at *
  generalize hC : Rf.loopF Rf.condF (q0.l.length + 1) v3 [] = C at *
  conv => whnf
  refine seq_of hP [0, 2, 3, 4, 5, 6, 7, 8, 9, 10, 11, 12, 14, 15, 32, 37, 51, 68, 81, 89, 94, 101, 115, 133, 149, 152, 171, 179, 198, 205, 218, 250] [100000, 100002, 100003, 100005, 152] [0, 2] [0, 66, 104226] [] (fun st => ∃ (l : List Cnd) (q : Rf), C = (l, false, q) ∧ q.l = q0.l ∧ l.length ≤ q0.l.length + 1 ∧
    st = ⟨[(0, .ptr 0 0 0), (2, .ptr 66 0 0)], [(0, q.ob), (66, .box 0 [.str v1.1, .int .i64 v2.1, .own 104226 0, .nil]), (104226, .arr 0 false 6 (cndV l))]⟩) ?_ ?_
  · conv => whnf
    refine loop_of hP [0, 2, 3, 4, 5, 6, 7, 8, 9, 10, 11, 12, 14, 15, 32, 37, 51, 68, 81, 89, 94, 101, 115, 133, 149, 152, 171, 179, 198, 205, 218, 250] [100000, 100002, 100003, 100005, 152] [0, 2, 4] [0, 66, 104226] [.cell 66 2 6] (fun m st => ∃ (f : Nat) (l : List Cnd) (q : Rf) (more : Bool), m = (if more then f + 1 else 0) ∧ q.l = q0.l ∧ l.length + f ≤ q0.l.length + 1 ∧ (more = true → C = Rf.loopF Rf.condF f q l ∧ q.l.length < f + q.i ∧ 1 ≤ f) ∧ (more = false → C = (l, false, q)) ∧
      st = ⟨[(0, .ptr 0 0 0), (2, .ptr 66 0 0), (4, .bool more)], [(0, q.ob), (66, .box 0 [.str v1.1, .int .i64 v2.1, .own 104226 0, .nil]), (104226, .arr 0 false 6 (cndV l))]⟩) (q0.l.length + 2) ?_ ?_
    · conv => whnf
      exact ⟨q0.l.length + 1, [], v3, true, rfl, hl3, by simp, fun _ => ⟨hC.symm, by rw [hl3]; omega, by omega⟩, (fun h => by cases h), rfl⟩
    · rintro m st ⟨f, l, ⟨ql, qi, qo⟩, more, rfl, hql, hlen, hm1, hm2, rfl⟩
      dsimp only at hql hm1
      subst hql
      cases more with
      | false =>
        conv => whnf
        exact ⟨l, ⟨q0.l, qi, qo⟩, hm2 rfl, rfl, by omega, rfl⟩
      | true =>
        obtain ⟨hCe, hf, h1f⟩ := hm1 rfl
        obtain ⟨f, rfl⟩ : ∃ g, f = g + 1 := ⟨f - 1, by omega⟩
        rw [Rf.loopF] at hCe
        cases qo with
        | false =>
          rw [if_neg (by simp)] at hCe
          conv => whnf
          exact ⟨l, ⟨q0.l, qi, false⟩, hCe, rfl, by omega, rfl⟩
        | true =>
        rw [if_pos rfl] at hCe
        have hYl := Rf.condF_l ⟨q0.l, qi, true⟩
        generalize hY : (⟨q0.l, qi, true⟩ : Rf).condF = Y at *
        conv => whnf
        refine seq_of hP [0, 2, 3, 4, 5, 6, 7, 8, 9, 10, 11, 12, 14, 15, 32, 37, 51, 68, 81, 89, 94, 101, 115, 133, 149, 152, 171, 179, 198, 205, 218, 250] [100000, 100002, 100003, 100005, 152] [0, 2, 5] [0, 66, 69, 104226] [.dat 69 2 4, .dat 69 4 5, .dat 69 5 5] (fun st => Y.2.1 = false ∧ st = ⟨[(0, .ptr 0 0 0), (2, .ptr 66 0 0), (5, .ptr 69 0 0)], [(0, Y.2.2.ob), (66, .box 0 [.str v1.1, .int .i64 v2.1, .own 104226 0, .nil]), (69, .box 0 Y.1.c), (104226, .arr 0 false 6 (cndV l))]⟩) ?_ ?_
        · unfold Rf.condF at hY
          conv => whnf
          refine callN [(0, 0)] (qis_good ⟨q0.l, qi, true⟩ 1 [110, 111, 116] hb) ?_ 
          conv => whnf
          refine ⟨⟨⟩, rfl, ?_⟩
          cases hs : (⟨q0.l, qi, true⟩ : Rf).is 1 [110, 111, 116] with
          | true =>
            rw [hs, if_pos rfl] at hY
            have hlt : qi < q0.l.length := is_lt hs
            have hw : IntKind.i64.wrap ((qi : Int) + 1) = (qi + 1 : Nat) := by rw [wr (by omega) (by omega)]; rfl
            conv => whnf
            rw [hw]
            refine callN [(0, 0)] (qatom_good ⟨q0.l, qi + 1, true⟩ hb) ?_ 
            conv => whnf
            refine ⟨⟨⟩, rfl, ?_⟩
            subst hY
            conv => whnf
            exact ⟨rfl, rfl⟩
          | false =>
            rw [hs, if_neg (by simp)] at hY
            conv => whnf
            refine callN [(0, 0)] (qis_good ⟨q0.l, qi, true⟩ 5 [91] hb) ?_ 
            conv => whnf
            refine ⟨⟨⟩, rfl, ?_⟩
            cases hs2 : (⟨q0.l, qi, true⟩ : Rf).is 5 [91] with
            | false =>
              rw [hs2, if_neg (by simp)] at hY
              conv => whnf
              refine callN [(0, 0)] (qatom_good ⟨q0.l, qi, true⟩ hb) ?_ 
              conv => whnf
              refine ⟨⟨⟩, rfl, ?_⟩
              subst hY
              conv => whnf
              exact ⟨rfl, rfl⟩
            | true =>
              rw [hs2, if_pos rfl] at hY
              have hlt : qi < q0.l.length := is_lt hs2
              have hw : IntKind.i64.wrap ((qi : Int) + 1) = (qi + 1 : Nat) := by rw [wr (by omega) (by omega)]; rfl
              conv => whnf
              rw [hw]
              refine callN [(0, 0)] (qexpr_good ⟨q0.l, qi + 1, true⟩ hb (q0.l.length + 1) (by dsimp only; omega) (by omega)) ?_ 
              conv => whnf
              refine ⟨⟨⟩, rfl, ?_⟩
              have hxl : (⟨q0.l, qi, true⟩ : Rf).step.exprO.2.2.l = q0.l ∧ qi + 1 ≤ (⟨q0.l, qi, true⟩ : Rf).step.exprO.2.2.i := Rf.exprO_l ⟨q0.l, qi + 1, true⟩
              have hxe : Rf.exprF (q0.l.length + 1) ⟨q0.l, qi + 1, true⟩ [] [] = (⟨q0.l, qi, true⟩ : Rf).step.exprO := rfl
              rw [hxe]
              generalize (⟨q0.l, qi, true⟩ : Rf).step.exprO = X at *
              obtain ⟨L, xd, ⟨xl, xi, xo⟩⟩ := X
              obtain ⟨hxl, hxi⟩ := hxl
              dsimp only at hxl hxi
              subst hxl
              cases xd with
              | true =>
                rw [if_pos rfl] at hY
                subst hY
                rw [if_pos rfl] at hCe
                rw [hCe, if_pos rfl] at hU
                conv => whnf
                rw [← hU]
                refine ⟨[], rfl, ?_⟩
                conv => whnf
                exact ⟨⟨⟩, rfl, trivial⟩
              | false =>
                rw [if_neg (by simp)] at hY
                dsimp only at hY
                conv => whnf
                refine seq_of hP [0, 2, 3, 4, 5, 6, 7, 8, 9, 10, 11, 12, 14, 15, 32, 37, 51, 68, 81, 89, 94, 101, 115, 133, 149, 152, 171, 179, 198, 205, 218, 250] [100000, 100002, 100003, 100005, 152] [0, 2, 5] [0, 66, 69, 104226] [] (fun st => st = ⟨[(0, .ptr 0 0 0), (2, .ptr 66 0 0), (5, .ptr 69 0 0)], [(0, (⟨q0.l, xi, xo⟩ : Rf).ob), (66, .box 0 [.str v1.1, .int .i64 v2.1, .own 104226 0, .nil]), (69, .box 0 [.int .i64 3, .str [], .nil, .int .i64 (⟨q0.l, xi, xo⟩ : Rf).wayF, .sl 5 (stpV L), .nil]), (104226, .arr 0 false 6 (cndV l))]⟩) ?_ ?_
                · conv => whnf
                  refine loop_of hP [0, 2, 3, 4, 5, 6, 7, 8, 9, 10, 11, 12, 14, 15, 32, 37, 51, 68, 81, 89, 94, 101, 115, 133, 149, 152, 171, 179, 198, 205, 218, 250] [100000, 100002, 100003, 100005, 152] [0, 2, 5, 6, 7] [0, 66, 69, 135, 104226] [] (fun m st => ∃ j : Nat, m = 4 - j ∧ j ≤ 4 ∧ (xo = false → j = 0) ∧ st = ⟨[(0, .ptr 0 0 0), (2, .ptr 66 0 0), (5, .ptr 69 0 0), (6, .own 135 0), (7, .int .i64 ((j + 1 : Nat) : Int))], [(0, (⟨q0.l, xi, xo⟩ : Rf).ob), (66, .box 0 [.str v1.1, .int .i64 v2.1, .own 104226 0, .nil]), (69, .box 0 [.int .i64 3, .str [], .nil, .int .i64 (wayN ⟨q0.l, xi, xo⟩ j), .sl 5 (stpV L), .nil]), (135, .arr 0 false 1 (howL.map fun s => [.str s])), (104226, .arr 0 false 6 (cndV l))]⟩) 4 ?_ ?_
                  · conv => whnf
                    exact ⟨0, rfl, by omega, fun _ => rfl, rfl⟩
                  · rintro m st ⟨j, rfl, hj, hjo, rfl⟩
                    cases xo with
                    | false =>
                      obtain rfl := hjo rfl
                      have hw0 := wayF_0 ⟨q0.l, xi, false⟩ rfl
                      conv => whnf
                      rw [hw0]
                      rfl
                    | true =>
                      have step : ∀ j : Nat, wayN ⟨q0.l, xi, true⟩ (j + 1) = if (⟨q0.l, xi, true⟩ : Rf).is 5 (howL.getD (j + 1) []) then ((j + 1 : Nat) : Int) else wayN ⟨q0.l, xi, true⟩ j := fun j => rfl
                      have h4 := wayN_4 ⟨q0.l, xi, true⟩ rfl
                      rcases j with _ | _ | _ | _ | _ | j
                      · conv => whnf
                        refine ⟨⟨⟩, by decide, ?_⟩
                        conv => whnf
                        refine ⟨[.str [61]], rfl, ?_⟩
                        conv => whnf
                        refine callN [(0, 0)] (qis_good ⟨q0.l, xi, true⟩ 5 [61] hb) ?_ 
                        conv => whnf
                        refine ⟨⟨⟩, rfl, ?_⟩
                        cases hq : (⟨q0.l, xi, true⟩ : Rf).is 5 [61] with
                        | true =>
                          conv => whnf
                          refine ⟨3, by omega, 1, rfl, by omega, (fun h => by cases h), ?_⟩
                          rw [step 0, show howL.getD (0 + 1) [] = [61] from rfl, hq]; rfl
                        | false =>
                          conv => whnf
                          refine ⟨3, by omega, 1, rfl, by omega, (fun h => by cases h), ?_⟩
                          rw [step 0, show howL.getD (0 + 1) [] = [61] from rfl, hq]; rfl
                      · conv => whnf
                        refine ⟨⟨⟩, by decide, ?_⟩
                        conv => whnf
                        refine ⟨[.str [33, 61]], rfl, ?_⟩
                        conv => whnf
                        refine callN [(0, 0)] (qis_good ⟨q0.l, xi, true⟩ 5 [33, 61] hb) ?_ 
                        conv => whnf
                        refine ⟨⟨⟩, rfl, ?_⟩
                        cases hq : (⟨q0.l, xi, true⟩ : Rf).is 5 [33, 61] with
                        | true =>
                          conv => whnf
                          refine ⟨2, by omega, 2, rfl, by omega, (fun h => by cases h), ?_⟩
                          rw [step 1, show howL.getD (1 + 1) [] = [33, 61] from rfl, hq]; rfl
                        | false =>
                          conv => whnf
                          refine ⟨2, by omega, 2, rfl, by omega, (fun h => by cases h), ?_⟩
                          rw [step 1, show howL.getD (1 + 1) [] = [33, 61] from rfl, hq]; rfl
                      · conv => whnf
                        refine ⟨⟨⟩, by decide, ?_⟩
                        conv => whnf
                        refine ⟨[.str [60]], rfl, ?_⟩
                        conv => whnf
                        refine callN [(0, 0)] (qis_good ⟨q0.l, xi, true⟩ 5 [60] hb) ?_ 
                        conv => whnf
                        refine ⟨⟨⟩, rfl, ?_⟩
                        cases hq : (⟨q0.l, xi, true⟩ : Rf).is 5 [60] with
                        | true =>
                          conv => whnf
                          refine ⟨1, by omega, 3, rfl, by omega, (fun h => by cases h), ?_⟩
                          rw [step 2, show howL.getD (2 + 1) [] = [60] from rfl, hq]; rfl
                        | false =>
                          conv => whnf
                          refine ⟨1, by omega, 3, rfl, by omega, (fun h => by cases h), ?_⟩
                          rw [step 2, show howL.getD (2 + 1) [] = [60] from rfl, hq]; rfl
                      · conv => whnf
                        refine ⟨⟨⟩, by decide, ?_⟩
                        conv => whnf
                        refine ⟨[.str [60, 61]], rfl, ?_⟩
                        conv => whnf
                        refine callN [(0, 0)] (qis_good ⟨q0.l, xi, true⟩ 5 [60, 61] hb) ?_ 
                        conv => whnf
                        refine ⟨⟨⟩, rfl, ?_⟩
                        cases hq : (⟨q0.l, xi, true⟩ : Rf).is 5 [60, 61] with
                        | true =>
                          conv => whnf
                          refine ⟨0, by omega, 4, rfl, by omega, (fun h => by cases h), ?_⟩
                          rw [step 3, show howL.getD (3 + 1) [] = [60, 61] from rfl, hq]; rfl
                        | false =>
                          conv => whnf
                          refine ⟨0, by omega, 4, rfl, by omega, (fun h => by cases h), ?_⟩
                          rw [step 3, show howL.getD (3 + 1) [] = [60, 61] from rfl, hq]; rfl
                      · conv => whnf
                        rw [← h4]
                      · omega
                · rintro st rfl
                  have hwne := @wayF_ne ⟨q0.l, xi, xo⟩
                  generalize hwy : (⟨q0.l, xi, xo⟩ : Rf).wayF = w at *
                  conv => whnf
                  refine branch_of (fun h0 => ?_) (fun h0 => ?_)
                  · have h0 : w = 0 := of_decide_eq_true h0
                    subst h0
                    rw [if_pos rfl] at hY
                    rw [if_neg (by simp [Rf.fail])] at hY
                    conv => whnf
                    refine callN [(0, 0)] (qtake_good ⟨q0.l, xi, false⟩ 5 [93] hb) ?_ 
                    conv => whnf
                    refine ⟨⟨⟩, rfl, ?_⟩
                    subst hY
                    conv => whnf
                    exact ⟨rfl, rfl⟩
                  · have h0 : ¬ w = 0 := of_decide_eq_false h0
                    obtain ⟨ho, hlx⟩ := hwne h0
                    dsimp only at ho hlx
                    subst ho
                    rw [if_neg h0, if_pos rfl] at hY
                    have hwx : IntKind.i64.wrap ((xi : Int) + 1) = (xi + 1 : Nat) := by rw [wr (by omega) (by omega)]; rfl
                    conv => whnf
                    rw [hwx]
                    refine callN [(0, 0)] (qexpr_good ⟨q0.l, xi + 1, true⟩ hb (q0.l.length + 1) (by dsimp only; omega) (by omega)) ?_ 
                    conv => whnf
                    refine ⟨⟨⟩, rfl, ?_⟩
                    have hzl : (⟨q0.l, xi, true⟩ : Rf).step.exprO.2.2.l = q0.l ∧ xi + 1 ≤ (⟨q0.l, xi, true⟩ : Rf).step.exprO.2.2.i := Rf.exprO_l ⟨q0.l, xi + 1, true⟩
                    have hze : Rf.exprF (q0.l.length + 1) ⟨q0.l, xi + 1, true⟩ [] [] = (⟨q0.l, xi, true⟩ : Rf).step.exprO := rfl
                    rw [hze]
                    generalize (⟨q0.l, xi, true⟩ : Rf).step.exprO = Z at *
                    obtain ⟨M, zd, ⟨zl, zi, zo⟩⟩ := Z
                    obtain ⟨hzl, hzi⟩ := hzl
                    dsimp only at hzl hzi
                    subst hzl
                    cases zd with
                    | true =>
                      rw [if_pos rfl] at hY
                      subst hY
                      rw [if_pos rfl] at hCe
                      rw [hCe, if_pos rfl] at hU
                      conv => whnf
                      rw [← hU]
                      refine ⟨[], rfl, ?_⟩
                      conv => whnf
                      exact ⟨⟨⟩, rfl, trivial⟩
                    | false =>
                      rw [if_neg (by simp)] at hY
                      conv => whnf
                      refine callN [(0, 0)] (qtake_good ⟨q0.l, zi, zo⟩ 5 [93] hb) ?_ 
                      conv => whnf
                      refine ⟨⟨⟩, rfl, ?_⟩
                      subst hY
                      conv => whnf
                      exact ⟨rfl, rfl⟩
        · rintro st ⟨hYd, rfl⟩
          dsimp only at hCe
          rw [hYd, if_neg (by simp)] at hCe
          obtain ⟨yc, yd, ⟨yl, yi, yo⟩⟩ := Y
          obtain ⟨hYl, hYi⟩ := hYl
          dsimp only at hYl hYi hCe
          subst hYl
          have hcl : (cndV l).length = l.length := List.length_map _
          conv => whnf
          refine ⟨⟨⟩, by dsimp only; rw [hcl]; simp only [List.length_cons, List.length_nil]; omega, ?_⟩
          conv => whnf
          cases yo with
          | false =>
            rw [Bool.false_and, if_neg (by simp)] at hCe
            conv => whnf
            exact ⟨0, by simp, f, l ++ [yc], ⟨q0.l, yi, false⟩, false, rfl, rfl, by simp; omega, (fun h => by cases h), (fun _ => hCe), by rw [cndV_snoc]⟩
          | true =>
            rw [Bool.true_and] at hCe
            conv => whnf
            refine callN [(0, 0)] (qis_good ⟨q0.l, yi, true⟩ 5 [44] hb) ?_ 
            conv => whnf
            refine ⟨⟨⟩, rfl, ?_⟩
            cases hs : (⟨q0.l, yi, true⟩ : Rf).is 5 [44] with
            | false =>
              rw [hs, if_neg (by simp)] at hCe
              conv => whnf
              exact ⟨0, by simp, f, l ++ [yc], ⟨q0.l, yi, true⟩, false, rfl, rfl, by simp; omega, (fun h => by cases h), (fun _ => hCe), by rw [cndV_snoc]⟩
            | true =>
              rw [hs, if_pos rfl] at hCe
              have hlt : yi < q0.l.length := is_lt hs
              have hw : IntKind.i64.wrap ((yi : Int) + 1) = (yi + 1 : Nat) := by rw [wr (by omega) (by omega)]; rfl
              conv => whnf
              rw [hw]
              exact ⟨f + 1, by simp, f, l ++ [yc], ⟨q0.l, yi + 1, true⟩, true, rfl, rfl, by simp; omega, (fun _ => ⟨hCe, by dsimp only; omega, by omega⟩), (fun h => by cases h), by rw [cndV_snoc]⟩
  · rintro st ⟨cl, ⟨ql, qi, qo⟩, hCe, hql, hclen, rfl⟩
    dsimp only at hql
    subst hql
    rw [hCe] at hU
    dsimp only at hU
    rw [if_neg (by simp)] at hU
    conv => whnf
    refine callN [(0, 0)] (qtake_good ⟨q0.l, qi, qo⟩ 5 [45, 62] hb) ?_ 
    conv => whnf
    refine ⟨⟨⟩, rfl, ?_⟩
    have e4 := (Rf.take_l ⟨q0.l, qi, qo⟩ 5 [45, 62]).1
    generalize (⟨q0.l, qi, qo⟩ : Rf).take 5 [45, 62] = v4 at *
    dsimp only at e4
    generalize hA : Rf.loopF Rf.actF (q0.l.length + 1) v4 [] = A at *
    conv => whnf
    refine seq_of hP [0, 2, 3, 4, 5, 6, 7, 8, 9, 10, 11, 12, 14, 15, 32, 37, 51, 68, 81, 89, 94, 101, 115, 133, 149, 152, 171, 179, 198, 205, 218, 250] [100000, 100002, 100003, 100005, 152] [0, 2] [0, 66, 104226, 104227] [] (fun st => ∃ (l : List Act) (q : Rf), A = (l, false, q) ∧ q.l = q0.l ∧ l.length ≤ q0.l.length + 1 ∧
      st = ⟨[(0, .ptr 0 0 0), (2, .ptr 66 0 0)], [(0, q.ob), (66, .box 0 [.str v1.1, .int .i64 v2.1, .own 104226 0, .own 104227 0]), (104226, .arr 0 false 6 (cndV cl)), (104227, .arr 0 false 4 (actV l))]⟩) ?_ ?_
    · conv => whnf
      refine loop_of hP [0, 2, 3, 4, 5, 6, 7, 8, 9, 10, 11, 12, 14, 15, 32, 37, 51, 68, 81, 89, 94, 101, 115, 133, 149, 152, 171, 179, 198, 205, 218, 250] [100000, 100002, 100003, 100005, 152] [0, 2, 8] [0, 66, 104226, 104227] [.cell 66 3 4] (fun m st => ∃ (f : Nat) (l : List Act) (q : Rf) (more : Bool), m = (if more then f + 1 else 0) ∧ q.l = q0.l ∧ l.length + f ≤ q0.l.length + 1 ∧ (more = true → A = Rf.loopF Rf.actF f q l ∧ q.l.length < f + q.i ∧ 1 ≤ f) ∧ (more = false → A = (l, false, q)) ∧
        st = ⟨[(0, .ptr 0 0 0), (2, .ptr 66 0 0), (8, .bool more)], [(0, q.ob), (66, .box 0 [.str v1.1, .int .i64 v2.1, .own 104226 0, .own 104227 0]), (104226, .arr 0 false 6 (cndV cl)), (104227, .arr 0 false 4 (actV l))]⟩) (q0.l.length + 2) ?_ ?_
      · conv => whnf
        exact ⟨q0.l.length + 1, [], v4, true, rfl, e4, by simp, fun _ => ⟨hA.symm, by rw [e4]; omega, by omega⟩, (fun h => by cases h), rfl⟩
      · rintro m st ⟨f, l, ⟨ql, qi2, qo2⟩, more, rfl, hql, hlen, hm1, hm2, rfl⟩
        dsimp only at hql hm1
        subst hql
        cases more with
        | false =>
          conv => whnf
          exact ⟨l, ⟨q0.l, qi2, qo2⟩, hm2 rfl, rfl, by omega, rfl⟩
        | true =>
          obtain ⟨hAe, hf, h1f⟩ := hm1 rfl
          obtain ⟨f, rfl⟩ : ∃ g, f = g + 1 := ⟨f - 1, by omega⟩
          rw [Rf.loopF] at hAe
          cases qo2 with
          | false =>
            rw [if_neg (by simp)] at hAe
            conv => whnf
            exact ⟨l, ⟨q0.l, qi2, false⟩, hAe, rfl, by omega, rfl⟩
          | true =>
          rw [if_pos rfl] at hAe
          have hYl := Rf.actF_l ⟨q0.l, qi2, true⟩
          generalize hY : (⟨q0.l, qi2, true⟩ : Rf).actF = Y at *
          unfold Rf.actF at hY
          conv => whnf
          refine seq_of hP [0, 2, 3, 4, 5, 6, 7, 8, 9, 10, 11, 12, 14, 15, 32, 37, 51, 68, 81, 89, 94, 101, 115, 133, 149, 152, 171, 179, 198, 205, 218, 250] [100000, 100002, 100003, 100005, 152] [0, 2, 9] [0, 66, 73, 104226, 104227, 104674] [.dat 73 2 1] (fun st => Y.2.1 = false ∧ (st = ⟨[(0, .ptr 0 0 0), (2, .ptr 66 0 0), (9, .ptr 73 0 0)], [(0, Y.2.2.ob), (66, .box 0 [.str v1.1, .int .i64 v2.1, .own 104226 0, .own 104227 0]), (73, .box 0 Y.1.c), (104226, .arr 0 false 6 (cndV cl)), (104227, .arr 0 false 4 (actV l))]⟩ ∨
            (Y.1.a.length ≤ q0.l.length + 1 ∧ st = ⟨[(0, .ptr 0 0 0), (2, .ptr 66 0 0), (9, .ptr 73 0 0)], [(0, Y.2.2.ob), (66, .box 0 [.str v1.1, .int .i64 v2.1, .own 104226 0, .own 104227 0]), (73, .box 0 [.int .i64 Y.1.k, .str Y.1.n, .own 104674 0, .int .i64 Y.1.w]), (104226, .arr 0 false 6 (cndV cl)), (104227, .arr 0 false 4 (actV l)), (104674, .arr 0 false 1 (opsV Y.1.a))]⟩))) ?_ ?_
          · conv => whnf
            refine callN [(0, 0)] (qis_good ⟨q0.l, qi2, true⟩ 1 [100, 114, 111, 112] hb) ?_ 
            conv => whnf
            refine ⟨⟨⟩, rfl, ?_⟩
            cases hs : (⟨q0.l, qi2, true⟩ : Rf).is 1 [100, 114, 111, 112] with
            | true =>
              rw [hs, if_pos rfl] at hY
              have hlt : qi2 < q0.l.length := is_lt hs
              have hw : IntKind.i64.wrap ((qi2 : Int) + 1) = (qi2 + 1 : Nat) := by rw [wr (by omega) (by omega)]; rfl
              conv => whnf
              rw [hw]
              refine callN [(0, 0)] (qtok_good ⟨q0.l, qi2 + 1, true⟩ hb) ?_ 
              conv => whnf
              refine ⟨⟨⟩, rfl, ?_⟩
              have hst : (⟨q0.l, qi2, true⟩ : Rf).step = ⟨q0.l, qi2 + 1, true⟩ := rfl
              rw [hst] at hY
              have hng : (⟨q0.l, qi2 + 1, true⟩ : Rf).negF = match (⟨q0.l, qi2 + 1, true⟩ : Rf).tok with
                | some t => decide (t.k = 3) && decide ((refNumS t.t).getD 0 < 0)
                | none => false := rfl
              have hmem : ∀ t, (⟨q0.l, qi2 + 1, true⟩ : Rf).tok = some t → t ∈ q0.l := fun t h => (tok_lt h).2
              generalize (⟨q0.l, qi2 + 1, true⟩ : Rf).tok = z at *
              cases z with
              | none =>
                dsimp only at hng
                rw [hng, if_neg (by simp)] at hY
                conv => whnf
                refine callN [(0, 0)] (qnum_good ⟨q0.l, qi2 + 1, true⟩ hb) ?_ 
                conv => whnf
                refine ⟨⟨⟩, rfl, ?_⟩
                subst hY
                conv => whnf
                exact ⟨rfl, .inl rfl⟩
              | some t =>
                have htb := hb.2 t (hmem t rfl)
                obtain ⟨tk, tx, tp⟩ := t
                dsimp only at hng htb
                conv => whnf
                refine branch_of (fun hk => ?_) (fun hk => ?_)
                · have hk : tk = 3 := of_decide_eq_true hk
                  subst hk
                  rw [decide_eq_true rfl, Bool.true_and] at hng
                  conv => whnf
                  refine call0 (refNumber_good tx (Nat.le_trans htb (by omega))) ?_
                  conv => whnf
                  refine branch_of (fun hn => ?_) (fun hn => ?_)
                  · rw [hng, hn, if_pos rfl] at hY
                    conv => whnf
                    refine callN [(0, 0)] (qnum_good ⟨q0.l, qi2 + 1, false⟩ hb) ?_ 
                    conv => whnf
                    refine ⟨⟨⟩, rfl, ?_⟩
                    subst hY
                    conv => whnf
                    exact ⟨rfl, .inl rfl⟩
                  · rw [hng, hn, if_neg (by simp)] at hY
                    conv => whnf
                    refine callN [(0, 0)] (qnum_good ⟨q0.l, qi2 + 1, true⟩ hb) ?_ 
                    conv => whnf
                    refine ⟨⟨⟩, rfl, ?_⟩
                    subst hY
                    conv => whnf
                    exact ⟨rfl, .inl rfl⟩
                · have hk : decide (tk = 3) = false := hk
                  rw [hk, Bool.false_and] at hng
                  rw [hng, if_neg (by simp)] at hY
                  conv => whnf
                  refine callN [(0, 0)] (qnum_good ⟨q0.l, qi2 + 1, true⟩ hb) ?_ 
                  conv => whnf
                  refine ⟨⟨⟩, rfl, ?_⟩
                  subst hY
                  conv => whnf
                  exact ⟨rfl, .inl rfl⟩
            | false =>
              rw [hs, if_neg (by simp)] at hY
              dsimp only at hY
              conv => whnf
              refine callN [(0, 0)] (qtake_good ⟨q0.l, qi2, true⟩ 5 [43] hb) ?_ 
              conv => whnf
              refine ⟨⟨⟩, rfl, ?_⟩
              have f0 := (Rf.take_l ⟨q0.l, qi2, true⟩ 5 [43]).1
              have g0 : tokB ((⟨q0.l, qi2, true⟩ : Rf).take 5 [43]).l := by rw [f0]; exact hb
              generalize (⟨q0.l, qi2, true⟩ : Rf).take 5 [43] = u0 at *
              conv => whnf
              refine callN [(0, 0)] (qname_good u0 g0) ?_ 
              conv => whnf
              refine ⟨⟨⟩, rfl, ?_⟩
              have f1 := (Rf.name_l u0).1
              have hul : u0.name.2.l = q0.l := f1.trans f0
              generalize u0.name = u1 at *
              obtain ⟨un, ⟨ul, ui, uo⟩⟩ := u1
              dsimp only at hul hY
              subst hul
              cases uo with
              | false =>
                rw [Bool.false_and, if_neg (by simp)] at hY
                subst hY
                conv => whnf
                exact ⟨rfl, .inl rfl⟩
              | true =>
              rw [Bool.true_and] at hY
              conv => whnf
              refine callN [(0, 0)] (qis_good ⟨q0.l, ui, true⟩ 5 [40] hb) ?_ 
              conv => whnf
              refine ⟨⟨⟩, rfl, ?_⟩
              cases hs2 : (⟨q0.l, ui, true⟩ : Rf).is 5 [40] with
              | false =>
                rw [hs2, if_neg (by simp)] at hY
                subst hY
                conv => whnf
                exact ⟨rfl, .inl rfl⟩
              | true =>
                rw [hs2, if_pos rfl] at hY
                have hui : ui < q0.l.length := is_lt hs2
                generalize hR : Rf.argsF (q0.l.length + 1) ⟨q0.l, ui, true⟩ [] = Ar at *
                conv => whnf
                refine loop_of hP [0, 2, 3, 4, 5, 6, 7, 8, 9, 10, 11, 12, 14, 15, 32, 37, 51, 68, 81, 89, 94, 101, 115, 133, 149, 152, 171, 179, 198, 205, 218, 250] [100000, 100002, 100003, 100005, 152] [0, 2, 9, 14] [0, 66, 73, 104226, 104227, 104674] [.cell 73 2 1] (fun m st => ∃ (f : Nat) (ar : List (List Stp)) (q : Rf) (again : Bool), m = (if again then f + 1 else 0) ∧ q.l = q0.l ∧ ar.length + f ≤ q0.l.length + 1 ∧ (again = true → q.ok = true ∧ q.i < q0.l.length ∧ Ar = Rf.argsF f q ar ∧ q.l.length < f + q.i) ∧ (again = false → Ar = (ar, false, q)) ∧
                  st = ⟨[(0, .ptr 0 0 0), (2, .ptr 66 0 0), (9, .ptr 73 0 0), (14, .bool again)], [(0, q.ob), (66, .box 0 [.str v1.1, .int .i64 v2.1, .own 104226 0, .own 104227 0]), (73, .box 0 [.int .i64 1, .str un, .own 104674 0, .int .i64 0]), (104226, .arr 0 false 6 (cndV cl)), (104227, .arr 0 false 4 (actV l)), (104674, .arr 0 false 1 (opsV ar))]⟩) (q0.l.length + 2) ?_ ?_
                · conv => whnf
                  exact ⟨q0.l.length + 1, [], ⟨q0.l, ui, true⟩, true, rfl, rfl, by simp, fun _ => ⟨rfl, hui, hR.symm, by dsimp only; omega⟩, (fun h => by cases h), rfl⟩
                · rintro m st ⟨f2, ar, ⟨ql, qi3, qo3⟩, again, rfl, hql, hlen2, hm3, hm4, rfl⟩
                  dsimp only at hql hm3
                  subst hql
                  cases again with
                  | false =>
                    have hAr := hm4 rfl
                    rw [hAr, if_neg (by simp)] at hY
                    conv => whnf
                    refine callN [(0, 0)] (qtake_good ⟨q0.l, qi3, qo3⟩ 5 [41] hb) ?_ 
                    conv => whnf
                    refine ⟨⟨⟩, rfl, ?_⟩
                    subst hY
                    conv => whnf
                    exact ⟨rfl, .inr ⟨by dsimp only; omega, rfl⟩⟩
                  | true =>
                    obtain ⟨h1, h2, h3, h4⟩ := hm3 rfl
                    subst h1
                    obtain ⟨f2, rfl⟩ : ∃ g, f2 = g + 1 := ⟨f2 - 1, by omega⟩
                    rw [Rf.argsF] at h3
                    have hw : IntKind.i64.wrap ((qi3 : Int) + 1) = (qi3 + 1 : Nat) := by rw [wr (by omega) (by omega)]; rfl
                    conv => whnf
                    rw [hw]
                    refine callN [(0, 0)] (qexpr_good ⟨q0.l, qi3 + 1, true⟩ hb (q0.l.length + 1) (by dsimp only; omega) (by omega)) ?_ 
                    conv => whnf
                    refine ⟨⟨⟩, rfl, ?_⟩
                    have hzl : (⟨q0.l, qi3, true⟩ : Rf).step.exprO.2.2.l = q0.l ∧ qi3 + 1 ≤ (⟨q0.l, qi3, true⟩ : Rf).step.exprO.2.2.i := Rf.exprO_l ⟨q0.l, qi3 + 1, true⟩
                    have hze : Rf.exprF (q0.l.length + 1) ⟨q0.l, qi3 + 1, true⟩ [] [] = (⟨q0.l, qi3, true⟩ : Rf).step.exprO := rfl
                    rw [hze]
                    generalize (⟨q0.l, qi3, true⟩ : Rf).step.exprO = Z at *
                    obtain ⟨M, zd, ⟨zl, zi, zo⟩⟩ := Z
                    obtain ⟨hzl, hzi⟩ := hzl
                    dsimp only at hzl hzi h3
                    subst hzl
                    cases zd with
                    | true =>
                      rw [if_pos rfl] at h3
                      rw [h3, if_pos rfl] at hY
                      subst hY
                      rw [if_pos rfl] at hAe
                      rw [hAe, if_pos rfl] at hU
                      conv => whnf
                      rw [← hU]
                      refine ⟨[], rfl, ?_⟩
                      conv => whnf
                      exact ⟨⟨⟩, rfl, trivial⟩
                    | false =>
                      rw [if_neg (by simp)] at h3
                      have hol : (opsV ar).length = ar.length := List.length_map _
                      conv => whnf
                      refine ⟨⟨⟩, by dsimp only; rw [hol]; simp only [List.length_cons, List.length_nil]; omega, ?_⟩
                      conv => whnf
                      cases zo with
                      | false =>
                        rw [Bool.false_and, if_neg (by simp)] at h3
                        conv => whnf
                        exact ⟨0, by simp, f2, ar ++ [M], ⟨q0.l, zi, false⟩, false, rfl, rfl, by simp; omega, (fun h => by cases h), (fun _ => h3), by rw [opsV_snoc]⟩
                      | true =>
                        rw [Bool.true_and] at h3
                        conv => whnf
                        refine callN [(0, 0)] (qis_good ⟨q0.l, zi, true⟩ 5 [44] hb) ?_ 
                        conv => whnf
                        refine ⟨⟨⟩, rfl, ?_⟩
                        cases hs3 : (⟨q0.l, zi, true⟩ : Rf).is 5 [44] with
                        | false =>
                          rw [hs3, if_neg (by simp)] at h3
                          conv => whnf
                          exact ⟨0, by simp, f2, ar ++ [M], ⟨q0.l, zi, true⟩, false, rfl, rfl, by simp; omega, (fun h => by cases h), (fun _ => h3), by rw [opsV_snoc]⟩
                        | true =>
                          rw [hs3, if_pos rfl] at h3
                          have hlt : zi < q0.l.length := is_lt hs3
                          conv => whnf
                          exact ⟨f2 + 1, by simp, f2, ar ++ [M], ⟨q0.l, zi, true⟩, true, rfl, rfl, by simp; omega, (fun _ => ⟨rfl, hlt, h3, by dsimp only; omega⟩), (fun h => by cases h), by rw [opsV_snoc]⟩
          · rintro st ⟨hYd, hst⟩
            dsimp only at hAe
            rw [hYd, if_neg (by simp)] at hAe
            obtain ⟨yc, yd, ⟨yl, yi, yo⟩⟩ := Y
            obtain ⟨hYl, hYi⟩ := hYl
            dsimp only at hYl hYi hAe hst
            subst hYl
            have hcl : (actV l).length = l.length := List.length_map _
            rcases hst with rfl | ⟨hal, rfl⟩ <;> (
              conv => whnf
              refine ⟨⟨⟩, by dsimp only; rw [hcl]; simp only [List.length_cons, List.length_nil]; omega, ?_⟩
              conv => whnf
              cases yo with
              | false =>
                rw [Bool.false_and, if_neg (by simp)] at hAe
                conv => whnf
                exact ⟨0, by simp, f, l ++ [yc], ⟨q0.l, yi, false⟩, false, rfl, rfl, by simp; omega, (fun h => by cases h), (fun _ => hAe), by rw [actV_snoc]⟩
              | true =>
                rw [Bool.true_and] at hAe
                conv => whnf
                refine callN [(0, 0)] (qis_good ⟨q0.l, yi, true⟩ 5 [44] hb) ?_ 
                conv => whnf
                refine ⟨⟨⟩, rfl, ?_⟩
                cases hs : (⟨q0.l, yi, true⟩ : Rf).is 5 [44] with
                | false =>
                  rw [hs, if_neg (by simp)] at hAe
                  conv => whnf
                  exact ⟨0, by simp, f, l ++ [yc], ⟨q0.l, yi, true⟩, false, rfl, rfl, by simp; omega, (fun h => by cases h), (fun _ => hAe), by rw [actV_snoc]⟩
                | true =>
                  rw [hs, if_pos rfl] at hAe
                  have hlt : yi < q0.l.length := is_lt hs
                  have hw : IntKind.i64.wrap ((yi : Int) + 1) = (yi + 1 : Nat) := by rw [wr (by omega) (by omega)]; rfl
                  conv => whnf
                  rw [hw]
                  exact ⟨f + 1, by simp, f, l ++ [yc], ⟨q0.l, yi + 1, true⟩, true, rfl, rfl, by simp; omega, (fun _ => ⟨hAe, by dsimp only; omega, by omega⟩), (fun h => by cases h), by rw [actV_snoc]⟩)
    · rintro st ⟨al, ⟨ql, qi4, qo4⟩, hAe, hql, halen, rfl⟩
      dsimp only at hql
      subst hql
      rw [hAe] at hU
      dsimp only at hU
      rw [if_neg (by simp)] at hU
      conv => whnf
      refine callN [(0, 0)] (qtake_good ⟨q0.l, qi4, qo4⟩ 5 [46] hb) ?_ 
      conv => whnf
      refine ⟨⟨⟩, rfl, ?_⟩
      conv => whnf
      rw [← hU]
      refine ⟨[], rfl, ?_⟩
      conv => whnf
      exact ⟨⟨⟩, rfl, trivial⟩
end Go.PV
namespace Go.PV
open Go Go.Proofs
set_option maxRecDepth 100000
def recS : List Bs := [[43], [45], [42]]
theorem reckons_good (r : Rd) (hl : r.l.length ≤ 1000000) : Good Tryz.prog 265 [.ptr 0 0 0] [r.ob] [.int .i64 r.reckons.1] [r.reckons.2.ob] := by
  refine good_of hP Tryz.func265 (by kernel_rfl) (lv := [0, 2, 3, 4, 5, 6, 7, 8, 14, 19]) (js := []) ⟨rfl, rfl, rfl, rfl, rfl, rfl, _, rfl, ?_⟩
  conv => whnf
  refine loop_of hP [0, 2, 3, 4, 5, 6, 7, 8, 14, 19] [] [0, 5, 6, 7] [69] [] (fun n st => ∃ k : Nat, n = 3 - k ∧ k ≤ 3 ∧ (∀ j (h : j < recS.length), j < k → r.see 5 recS[j] = false) ∧ st = ⟨[(0, .ptr 0 0 0), (5, .own 69 0), (6, .int .i64 3), (7, .int .i64 k)], [(0, r.ob), (69, .arr 0 false 1 (strV recS))]⟩) 3 ?_ ?_
  · conv => whnf
    exact ⟨0, rfl, by omega, fun j _ h => by omega, rfl⟩
  · rintro n st ⟨k, rfl, hk, hn, rfl⟩
    conv => whnf
    refine branch_of (fun h => ?_) (fun h => ?_)
    · have h := of_decide_eq_true h
      have hk' : k < recS.length := by simp [recS]; omega
      conv => whnf
      refine ⟨⟨⟩, idxB (f := fun x => [V.str x]) hk' rfl, ?_⟩
      conv => whnf
      refine ⟨[.str recS[k]], (idxM (f := fun x => [V.str x]) hk' rfl).2, ?_⟩
      conv => whnf
      refine callN [(0, 0)] (rsign_good' r recS[k] hl) ?_ 
      conv => whnf
      refine ⟨⟨⟩, rfl, ?_⟩
      unfold Rd.word
      cases hs : r.see 5 recS[k] with
      | true =>
        have e : r.reckons = ((3 + k : Int), r.step) := by
          unfold Rd.reckons
          have h3 : k = 0 ∨ k = 1 ∨ k = 2 := by omega
          rcases h3 with rfl | rfl | rfl
          · have hs : r.see 5 [43] = true := hs
            rw [if_pos hs]; rfl
          · have hs : r.see 5 [45] = true := hs
            have h0 : r.see 5 [43] = false := hn 0 (by decide) (by omega)
            rw [h0, if_neg (by simp), if_pos hs]; rfl
          · have hs : r.see 5 [42] = true := hs
            have h0 : r.see 5 [43] = false := hn 0 (by decide) (by omega)
            have h1 : r.see 5 [45] = false := hn 1 (by decide) (by omega)
            rw [h0, if_neg (by simp), h1, if_neg (by simp), if_pos hs]; rfl
        rw [if_pos rfl, e]
        conv => whnf
        refine ⟨[], by rw [wr (by omega) (by omega)]; rfl, ?_⟩
        conv => whnf
        exact ⟨⟨⟩, rfl, trivial⟩
      | false =>
        rw [if_neg (by simp)]
        conv => whnf
        refine ⟨3 - (k + 1), by omega, k + 1, rfl, by omega, fun j hj hjk => ?_, ?_⟩
        · by_cases e : j = k
          · subst e; exact hs
          · exact hn j hj (by omega)
        · rw [wr (by omega) (by omega)]; rfl
    · have h := of_decide_eq_false h
      have h0 : r.see 5 [43] = false := hn 0 (by decide) (by omega)
      have h1 : r.see 5 [45] = false := hn 1 (by decide) (by omega)
      have h2 : r.see 5 [42] = false := hn 2 (by decide) (by omega)
      have e : r.reckons = (0, if r.isOpen then r.fail else r) := by
        unfold Rd.reckons; rw [h0, h1, h2]; rfl
      rw [e]
      conv => whnf
      refine callN [(0, 0)] (open_good r) ?_ 
      conv => whnf
      refine ⟨⟨⟩, rfl, ?_⟩
      cases r.isOpen with
      | true =>
        rw [if_pos rfl]
        conv => whnf
        refine ⟨[], rfl, ?_⟩
        conv => whnf
        exact ⟨⟨⟩, rfl, trivial⟩
      | false =>
        rw [if_neg (by simp)]
        conv => whnf
        refine ⟨[], rfl, ?_⟩
        conv => whnf
        exact ⟨⟨⟩, rfl, trivial⟩
theorem rpart_leaf (n : Nat) (r : Rd) (h : r.see 5 [40] = false) : r.part n = ([⟨if r.term.1.v = [] then 2 else 1, r.term.1.v, r.term.1.x⟩], r.term.2) := by
  cases n <;> (unfold Rd.part; rw [h]; rfl)
theorem rpart_leaf_good (n : Nat) (r : Rd) (d : Nat) (hb : tokB r.l) (hs : r.see 5 [40] = false) : Good Tryz.prog 250 [.ptr 0 0 0, .int .i64 d] [r.ob] [.own 1 0] [(r.part n).2.ob, .arr 0 false 5 (stpV (r.part n).1)] := by
  obtain ⟨hl, ht⟩ := hb
  refine good_of hP Tryz.func250 (by kernel_rfl) (lv := [0, 1, 4, 5, 6, 7, 8, 11, 16, 25, 37]) (js := []) ⟨rfl, rfl, rfl, rfl, rfl, rfl, _, rfl, ?_⟩
  conv => whnf
  refine callN [(0, 0)] (rsign_good' r [40] hl) ?_ 
  conv => whnf
  refine ⟨⟨⟩, rfl, ?_⟩
  unfold Rd.word
  rw [hs, if_neg (by simp), rpart_leaf n r hs]
  conv => whnf
  refine callN [(0, 0)] (rterm_good r hl ht) ?_ 
  conv => whnf
  refine ⟨⟨⟩, rfl, ?_⟩
  generalize r.term = x
  conv => whnf
  refine branch_of (fun h => ?_) (fun h => ?_)
  · rw [Bool.not_eq_true'] at h
    have h : ¬ x.1.v = [] := of_decide_eq_false h
    rw [if_neg h]
    conv => whnf
    refine ⟨[(87, 0)], rfl, ?_⟩
    conv => whnf
    refine ⟨⟨⟩, rfl, ?_⟩
    conv => whnf
    exact ⟨⟨⟩, rfl, trivial⟩
  · rw [Bool.not_eq_false'] at h
    have h : x.1.v = [] := of_decide_eq_true h
    rw [if_pos h]
    conv => whnf
    refine ⟨[(87, 0)], rfl, ?_⟩
    conv => whnf
    refine ⟨⟨⟩, rfl, ?_⟩
    conv => whnf
    exact ⟨⟨⟩, rfl, trivial⟩
theorem rpart_good (n : Nat) : ∀ (r : Rd) (d : Nat), tokB r.l → d + n = 15 → Good Tryz.prog 250 [.ptr 0 0 0, .int .i64 d] [r.ob] [.own 1 0] [(r.part n).2.ob, .arr 0 false 5 (stpV (r.part n).1)] := by
  induction n with
  | zero =>
    rintro r d ⟨hl, ht⟩ hd
    cases hs : r.see 5 [40] with
    | false => exact rpart_leaf_good 0 r d ⟨hl, ht⟩ hs
    | true =>
      refine good_of hP Tryz.func250 (by kernel_rfl) (lv := [0, 1, 4, 5, 6, 7, 8, 11, 16, 25, 37]) (js := []) ⟨rfl, rfl, rfl, rfl, rfl, rfl, _, rfl, ?_⟩
      conv => whnf
      refine callN [(0, 0)] (rsign_good' r [40] hl) ?_ 
      conv => whnf
      refine ⟨⟨⟩, rfl, ?_⟩
      unfold Rd.word
      have e : r.part 0 = ([], { r.step with over := true }) := by unfold Rd.part; rw [if_pos hs]
      rw [hs, if_pos rfl, e]
      conv => whnf
      refine branch_of (fun h => ?_) (fun h => ?_)
      · conv => whnf
        refine ⟨[(200001, 0)], rfl, ?_⟩
        conv => whnf
        refine ⟨⟨⟩, rfl, ?_⟩
        conv => whnf
        exact ⟨⟨⟩, rfl, trivial⟩
      · exact absurd (of_decide_eq_false h) (by omega)
  | succ n ih =>
    rintro r d ⟨hl, ht⟩ hd
    cases hs : r.see 5 [40] with
    | false => exact rpart_leaf_good (n + 1) r d ⟨hl, ht⟩ hs
    | true =>
      refine good_of hP Tryz.func250 (by kernel_rfl) (lv := [0, 1, 4, 5, 6, 7, 8, 11, 16, 25, 37]) (js := []) ⟨rfl, rfl, rfl, rfl, rfl, rfl, _, rfl, ?_⟩
      conv => whnf
      refine callN [(0, 0)] (rsign_good' r [40] hl) ?_ 
      conv => whnf
      refine ⟨⟨⟩, rfl, ?_⟩
      unfold Rd.word
      rw [hs, if_pos rfl]
      conv => whnf
      refine branch_of (fun h => ?_) (fun h => ?_)
      · exact absurd (of_decide_eq_true h) (by omega)
      have hw : IntKind.i64.wrap ((d : Int) + 1) = (d + 1 : Nat) := by rw [wr (by omega) (by omega)]; rfl
      have hr1 := Rd.part_l n r.step
      have hr2 := Rd.reckons_l (r.step.part n).2
      have hr3 := Rd.part_l n (r.step.part n).2.reckons.2
      have hn1 := Rd.part_len n r.step
      have hn2 := Rd.part_len n (r.step.part n).2.reckons.2
      have hp : 2 ^ (n + 1) ≤ 2 ^ 15 := Nat.pow_le_pow_right (by omega) (by omega)
      have hp2 : (2 : Nat) ^ 15 = 32768 := by decide
      conv => whnf
      rw [hw]
      refine callN [(0, 0)] (ih r.step (d + 1) ⟨hl, ht⟩ (by omega)) ?_ 
      conv => whnf
      refine ⟨⟨⟩, rfl, ?_⟩
      conv => whnf
      refine callN [(0, 0)] (reckons_good (r.step.part n).2 (by rw [hr1.1]; exact hl)) ?_ 
      conv => whnf
      refine ⟨⟨⟩, rfl, ?_⟩
      conv => whnf
      refine callN [(0, 0)] (open_good (r.step.part n).2.reckons.2) ?_ 
      conv => whnf
      refine ⟨⟨⟩, rfl, ?_⟩
      cases ho : (r.step.part n).2.reckons.2.isOpen with
      | false =>
        have e : r.part (n + 1) = ([], (r.step.part n).2.reckons.2) := by
          rw [Rd.part, if_pos hs]; dsimp only; rw [ho]; rfl
        rw [e]
        conv => whnf
        refine ⟨[(200001, 0)], rfl, ?_⟩
        conv => whnf
        refine ⟨⟨⟩, rfl, ?_⟩
        conv => whnf
        exact ⟨⟨⟩, rfl, trivial⟩
      | true =>
        have e : r.part (n + 1) = ((r.step.part n).1 ++ ((r.step.part n).2.reckons.2.part n).1 ++ [⟨(r.step.part n).2.reckons.1, [], zeroV⟩], ((r.step.part n).2.reckons.2.part n).2.want 5 [41]) := by
          rw [Rd.part, if_pos hs]; dsimp only; rw [if_pos ho]
        rw [show (r.part (n + 1)).2 = ((r.step.part n).2.reckons.2.part n).2.want 5 [41] from by rw [e], show stpV (r.part (n + 1)).1 = (stpV (r.step.part n).1 ++ stpV ((r.step.part n).2.reckons.2.part n).1) ++ [Stp.c ⟨(r.step.part n).2.reckons.1, [], zeroV⟩] from by rw [e, stpV, List.map_append, List.map_append]; rfl]
        have hrl : (r.step.part n).2.reckons.2.l = r.l := hr2.1.trans hr1.1
        conv => whnf
        rw [hw]
        refine callN [(0, 0)] (ih (r.step.part n).2.reckons.2 (d + 1) ⟨by rw [hrl]; exact hl, by rw [hrl]; exact ht⟩ (by omega)) ?_ 
        conv => whnf
        refine ⟨⟨⟩, rfl, ?_⟩
        conv => whnf
        refine ⟨⟨⟩, by dsimp only; rw [List.length_map, List.length_map]; omega, ?_⟩
        conv => whnf
        refine callN [(0, 0)] (want_good ((r.step.part n).2.reckons.2.part n).2 [41] (by rw [hr3.1, hrl]; exact hl)) ?_ 
        conv => whnf
        refine ⟨⟨⟩, rfl, ?_⟩
        conv => whnf
        refine ⟨⟨⟩, by dsimp only; rw [List.length_append, List.length_map, List.length_map]; simp only [List.length_cons, List.length_nil]; omega, ?_⟩
        conv => whnf
        refine ⟨[(3072, 2)], rfl, ?_⟩
        conv => whnf
        refine ⟨⟨⟩, rfl, ?_⟩
        conv => whnf
        exact ⟨⟨⟩, rfl, trivial⟩
theorem rexpr_good (r : Rd) (hb : tokB r.l) : Good Tryz.prog 223 [.ptr 0 0 0] [r.ob] [.sl 5 (stpV r.expr.1)] [r.expr.2.ob] := by
  refine good_of hP Tryz.func223 (by kernel_rfl) (lv := [0, 2, 3, 6, 11]) (js := []) ⟨rfl, rfl, rfl, rfl, rfl, rfl, _, rfl, ?_⟩
  unfold Rd.expr
  conv => whnf
  refine callN [(0, 0)] (open_good r) ?_ 
  conv => whnf
  refine ⟨⟨⟩, rfl, ?_⟩
  cases ho : r.isOpen with
  | false =>
    rw [if_neg (by simp)]
    conv => whnf
    refine ⟨[], rfl, ?_⟩
    conv => whnf
    exact ⟨⟨⟩, rfl, trivial⟩
  | true =>
    rw [if_pos rfl]
    conv => whnf
    refine callN [(0, 0)] (rpart_good 15 r 0 hb rfl) ?_ 
    conv => whnf
    refine ⟨⟨⟩, rfl, ?_⟩
    generalize r.part 15 = x
    by_cases hx : 15 < x.1.length
    · dsimp only
      rw [if_pos hx]
      conv => whnf
      refine branch_of (fun h => ?_) (fun h => ?_)
      · conv => whnf
        refine ⟨[], rfl, ?_⟩
        conv => whnf
        exact ⟨⟨⟩, rfl, trivial⟩
      · have h := of_decide_eq_false h
        rw [List.length_map] at h; omega
    · dsimp only
      rw [if_neg hx]
      conv => whnf
      refine branch_of (fun h => ?_) (fun h => ?_)
      · have h := of_decide_eq_true h
        rw [List.length_map] at h; omega
      · conv => whnf
        refine ⟨[], rfl, ?_⟩
        conv => whnf
        exact ⟨⟨⟩, rfl, trivial⟩
/-- the stack's texts, as they lie -/
theorem exprText_good (l : List Stp) (hb : opsB l) : Good Tryz.prog 170 [.sl 5 (stpV l)] [] [.str (if exprOk l then exprT l else []), .int .i64 (if exprOk l then 0 else 1)] [] := by
  refine good_of hP Tryz.func170 (by kernel_rfl) (lv := [0, 2, 3, 4, 5, 7, 8, 9, 13, 15, 16, 17, 18, 28]) (js := []) ⟨rfl, rfl, rfl, rfl, rfl, rfl, _, rfl, ?_⟩
  conv => whnf
  refine call0 (xcheck_good l hb) ?_
  cases hk : exprOk l with
  | false =>
    conv => whnf
    exact fin0 rfl trivial
  | true =>
    rw [if_pos rfl, if_pos rfl]
    obtain ⟨hl, ho⟩ := hb
    have hk2 := hk
    unfold exprOk at hk
    simp only [Bool.and_eq_true, decide_eq_true_eq] at hk
    obtain ⟨⟨hl1, hl2⟩, hd⟩ := hk
    conv => whnf
    refine loop_of hP [0, 2, 3, 4, 5, 7, 8, 9, 13, 15, 16, 17, 18, 28] [] [5, 15, 16, 17] [69] [.slot 5 1] (fun n st => ∃ (k : Nat) (S : List Bs), n = l.length - k ∧ k ≤ l.length ∧ depGo 0 l = depGo S.length (l.drop k) ∧ xtGo [] l = xtGo S (l.drop k) ∧ (S.map List.length).sum ≤ 130 * k ∧ S.length ≤ k ∧ st = ⟨[(5, .own 69 0), (15, .sl 5 (stpV l)), (16, .int .i64 l.length), (17, .int .i64 k)], [(69, .arr 0 false 1 (strV S.reverse))]⟩) l.length ?_ ?_
    · conv => whnf
      exact ⟨0, [], rfl, Nat.zero_le _, rfl, rfl, Nat.le_refl _, Nat.le_refl _, by rw [← List.length_map (f := Stp.c)]; rfl⟩
    · rintro n st ⟨k, S, rfl, hkl, he, ht, hsum, hSl, rfl⟩
      conv => whnf
      refine branch_of (fun h1 => ?_) (fun h1 => ?_)
      · have h1 := of_decide_eq_true h1
        have hk' : k < l.length := by omega
        rw [List.drop_eq_getElem_cons hk', depGo] at he
        rw [List.drop_eq_getElem_cons hk'] at ht
        have hs : stpOk l[k] = true := by
          cases hs : stpOk l[k] with
          | true => rfl
          | false => rw [hs, if_neg (by simp), hd] at he; cases he
        rw [hs, if_pos rfl] at he
        have h5 := stpOk_k hs
        have hob := ho _ (List.getElem_mem hk')
        have ix := idxM (f := Stp.c) hk' (x := (k : Int)) rfl
        conv => whnf
        generalize l[k] = o at *
        refine ⟨Stp.c o, ix, ?_⟩
        have hw4 : IntKind.i64.wrap ((k : Int) + 1) = (k + 1 : Nat) := by rw [wr (by omega) (by omega)]; rfl
        have push : o.k ≤ 2 → xtGo [] l = xtGo (termT ⟨o.v, o.x⟩ :: S) (l.drop (k + 1)) ∧ depGo 0 l = depGo (S.length + 1) (l.drop (k + 1)) ∧ (termT ⟨o.v, o.x⟩).length ≤ 122 := fun h => by
          rw [if_pos h] at he
          rw [xt_push h] at ht
          exact ⟨ht, he, termT_len (stpOk_push hs h).1⟩
        have snoc : ∀ t : Bs, strV (t :: S).reverse = strV S.reverse ++ [[.str t]] := fun t => by rw [List.reverse_cons]; exact List.map_append
        conv => whnf
        refine branch_of (fun h2 => ?_) (fun h2 => ?_)
        · have h2 : o.k = 1 := of_decide_eq_true h2
          obtain ⟨p1, p2, p3⟩ := push (by omega)
          conv => whnf
          refine call0 (term_good ⟨o.v, o.x⟩ hob) ?_
          conv => whnf
          refine ⟨⟨⟩, by dsimp only; simp only [List.length_map, List.length_reverse, List.length_cons, List.length_nil]; omega, ?_⟩
          conv => whnf
          refine ⟨l.length - (k + 1), by omega, k + 1, termT ⟨o.v, o.x⟩ :: S, rfl, by omega, p2, p1, by simp only [List.map_cons, List.sum_cons]; omega, by simp; omega, ?_⟩
          rw [hw4, snoc]
        have h2 : ¬ o.k = 1 := of_decide_eq_false h2
        conv => whnf
        refine branch_of (fun h3 => ?_) (fun h3 => ?_)
        · have h3 : o.k = 2 := of_decide_eq_true h3
          obtain ⟨p1, p2, p3⟩ := push (by omega)
          conv => whnf
          refine call0 (term_good ⟨o.v, o.x⟩ hob) ?_
          conv => whnf
          refine ⟨⟨⟩, by dsimp only; simp only [List.length_map, List.length_reverse, List.length_cons, List.length_nil]; omega, ?_⟩
          conv => whnf
          refine ⟨l.length - (k + 1), by omega, k + 1, termT ⟨o.v, o.x⟩ :: S, rfl, by omega, p2, p1, by simp only [List.map_cons, List.sum_cons]; omega, by simp; omega, ?_⟩
          rw [hw4, snoc]
        have h3 : ¬ o.k = 2 := of_decide_eq_false h3
        rw [if_neg (by omega)] at he
        have hS2 : ¬ S.length < 2 := fun h => by rw [if_pos h, hd] at he; cases he
        rw [if_neg hS2] at he
        match S, hS2, he, ht, hsum, hSl with
        | [], h, _, _, _, _ => simp at h
        | [_], h, _, _, _, _ => simp at h
        | b :: a :: S, _, he, ht, hsum, hSl =>
          rw [xt_op (by omega)] at ht
          simp only [List.map_cons, List.sum_cons] at hsum
          simp only [List.length_cons] at hSl
          have hop := (stpOk_op hs (by omega)).1
          have hol : (opT o.k).length = 1 := by unfold opT; split; rfl; split <;> rfl
          have hw1 : IntKind.i64.wrap (((strV (b :: a :: S).reverse).length : Int) - 2) = (S.length : Nat) := by
            rw [List.length_map, List.length_reverse, List.length_cons, List.length_cons, wr (by omega) (by omega)]; omega
          have hw2 : IntKind.i64.wrap ((S.length : Int) + 1) = (S.length + 1 : Nat) := by rw [wr (by omega) (by omega)]; rfl
          have hr : (b :: a :: S).reverse = S.reverse ++ [a, b] := by simp
          have ga : (strV (b :: a :: S).reverse)[((S.length : Nat) : Int).toNat]? = some [.str a] := by rw [hr]; simp
          have gb : (strV (b :: a :: S).reverse)[((S.length + 1 : Nat) : Int).toNat]? = some [.str b] := by rw [hr]; simp
          conv => whnf
          rw [hw1]
          refine ⟨⟨⟩, by dsimp only; rw [List.length_map, List.length_reverse, List.length_cons, List.length_cons]; omega, ?_⟩
          conv => whnf
          refine ⟨[.str a], ga, ?_⟩
          conv => whnf
          refine ⟨⟨⟩, by dsimp only; simp only [List.length_cons, List.length_nil]; omega, ?_⟩
          conv => whnf
          refine ⟨⟨⟩, by dsimp only; simp only [List.length_append, List.length_cons, List.length_nil]; omega, ?_⟩
          conv => whnf
          refine call0 (how_good o.k hop) ?_
          conv => whnf
          refine ⟨⟨⟩, by dsimp only; simp only [List.length_append, List.length_cons, List.length_nil]; omega, ?_⟩
          conv => whnf
          refine ⟨⟨⟩, by dsimp only; simp only [List.length_append, List.length_cons, List.length_nil]; omega, ?_⟩
          conv => whnf
          rw [hw2]
          refine ⟨⟨⟩, by dsimp only; rw [List.length_map, List.length_reverse, List.length_cons, List.length_cons]; omega, ?_⟩
          conv => whnf
          refine ⟨[.str b], gb, ?_⟩
          conv => whnf
          refine ⟨⟨⟩, by dsimp only; simp only [List.length_append, List.length_cons, List.length_nil]; omega, ?_⟩
          conv => whnf
          refine ⟨⟨⟩, by dsimp only; simp only [List.length_append, List.length_cons, List.length_nil]; omega, ?_⟩
          conv => whnf
          refine ⟨by kernel_rfl, ?_⟩
          conv => whnf
          have tk : (strV (b :: a :: S).reverse).take ((S.length : Nat) : Int).toNat = strV S.reverse := by rw [hr]; simp
          refine ⟨⟨⟩, by dsimp only; rw [List.length_map, List.length_reverse, List.length_cons, List.length_cons]; omega, ?_⟩
          conv => whnf
          refine ⟨⟨⟩, by dsimp only; rw [tk]; simp only [List.length_map, List.length_reverse, List.length_cons, List.length_nil]; omega, ?_⟩
          conv => whnf
          refine ⟨l.length - (k + 1), by omega, k + 1, nodeT o.k a b :: S, rfl, by omega, by simpa using he, ht, ?_, by simp; omega, ?_⟩
          · simp only [List.map_cons, List.sum_cons, nodeT, List.length_append, List.length_cons, List.length_nil, hol]; omega
          · rw [hw4, show strV (nodeT o.k a b :: S).reverse = strV S.reverse ++ [[.str (nodeT o.k a b)]] from by rw [List.reverse_cons]; exact List.map_append, tk]; rfl
      · have h1 := of_decide_eq_false h1
        have hdr : l.drop k = [] := List.drop_eq_nil_iff.2 (by omega)
        rw [hdr, depGo] at he
        rw [hdr, xtGo] at ht
        match S, he, ht with
        | [T], _, ht =>
          conv => whnf
          refine ⟨⟨⟩, by simp, ?_⟩
          conv => whnf
          refine ⟨_, rfl, ?_⟩
          conv => whnf
          refine fin0 ?_ trivial
          unfold exprT; rw [ht]; rfl
        | [], he, _ => rw [hd] at he; simp at he
        | _ :: _ :: _, he, _ => rw [hd] at he; simp at he
end Go.PV
namespace Go.PV
open Go Go.Proofs
set_option maxRecDepth 100000
theorem gright_good (h : Int) : Good Tryz.prog 225 [.int .i64 h] [] [.bool (decide (1 ≤ h ∧ h ≤ 4))] [] := by
  refine good_of hP Tryz.func225 (by kernel_rfl) (lv := [0, 2]) (js := []) ⟨rfl, rfl, rfl, rfl, rfl, rfl, _, rfl, ?_⟩
  conv => whnf
  refine branch_of (fun g => ?_) (fun g => ?_)
  · have g := of_decide_eq_true g
    conv => whnf
    exact fin0 (by rw [show decide (1 ≤ h ∧ h ≤ 4) = decide (h ≤ 4) from by rw [decide_eq_decide]; omega]) trivial
  · have g := of_decide_eq_false g
    conv => whnf
    exact fin0 (by rw [decide_eq_false (by omega)]) trivial
theorem gcheck_good (c : Cnd) (hb : cndB c) : Good Tryz.prog 187 [.agg c.c] [] [.int .i64 (if guardOk c then 0 else 1)] [] := by
  obtain ⟨k, ⟨n, a⟩, h, l, r⟩ := c
  obtain ⟨b1, b2, b3, b4, b5, b6, b7⟩ := hb
  dsimp only at b1 b2 b3 b4 b5 b6 b7
  refine good_of hP Tryz.func187 (by kernel_rfl) (lv := [0, 1, 2, 36]) (js := []) ⟨rfl, rfl, rfl, rfl, rfl, rfl, _, rfl, ?_⟩
  unfold guardOk
  dsimp only
  conv => whnf
  refine branch_of (fun h1 => ?_) (fun h1 => ?_)
  · have h1 : (!decide (k = 3)) = true := h1
    rw [Bool.not_eq_true'] at h1
    rw [h1]
    conv => whnf
    exact fin0 rfl trivial
  have h1 : (!decide (k = 3)) = false := h1
  rw [Bool.not_eq_false'] at h1
  rw [h1, Bool.true_and]
  conv => whnf
  refine branch_of (fun h2 => ?_) (fun h2 => ?_)
  · have h2 : (!decide (n = [])) = true := h2
    rw [Bool.not_eq_true'] at h2
    rw [h2]
    conv => whnf
    exact fin0 rfl trivial
  have h2 : (!decide (n = [])) = false := h2
  rw [Bool.not_eq_false'] at h2
  rw [h2, Bool.true_and]
  conv => whnf
  refine branch_of (fun h3 => ?_) (fun h3 => ?_)
  · have h3 := of_decide_eq_true h3
    rw [List.length_map] at h3
    have e : decide (a = []) = false := decide_eq_false (by rintro rfl; exact absurd h3 (by simp))
    rw [e]
    conv => whnf
    exact fin0 rfl trivial
  have h3 := of_decide_eq_false h3
  rw [List.length_map] at h3
  have e : decide (a = []) = true := decide_eq_true (List.eq_nil_of_length_eq_zero (by dsimp only at h3; omega))
  rw [e, Bool.true_and]
  conv => whnf
  refine call0 (gright_good h) ?_
  cases decide (1 ≤ h ∧ h ≤ 4) with
  | false =>
    conv => whnf
    exact fin0 rfl trivial
  | true =>
  rw [Bool.true_and]
  conv => whnf
  refine call0 (xcheck_good l ⟨b4, b5⟩) ?_
  cases exprOk l with
  | false =>
    conv => whnf
    exact fin0 rfl trivial
  | true =>
  rw [Bool.true_and]
  conv => whnf
  refine call0 (xcheck_good r ⟨b6, b7⟩) ?_
  cases exprOk r with
  | false =>
    conv => whnf
    exact fin0 rfl trivial
  | true =>
    conv => whnf
    exact fin0 rfl trivial
theorem rcond_good (c : Cnd) (hb : cndB c) : Good Tryz.prog 121 [.agg c.c] [] [.bool (condOk c)] [] := by
  have hg := gcheck_good c hb
  obtain ⟨k, ⟨n, a⟩, h, l, r⟩ := c
  obtain ⟨b1, b2, b3, b4, b5, b6, b7⟩ := hb
  dsimp only at b1 b2 b3 b4 b5 b6 b7
  refine good_of hP Tryz.func121 (by kernel_rfl) (lv := [0, 1, 2, 3, 6]) (js := []) ⟨rfl, rfl, rfl, rfl, rfl, rfl, _, rfl, ?_⟩
  unfold condOk
  dsimp only
  conv => whnf
  refine branch_of (fun h1 => ?_) (fun h1 => ?_)
  · have h1 : k = 3 := of_decide_eq_true h1
    rw [if_pos h1]
    conv => whnf
    refine call0 (hg) ?_
    generalize guardOk ⟨k, ⟨n, a⟩, h, l, r⟩ = b
    cases b with
    | false =>
      conv => whnf
      exact fin0 rfl trivial
    | true =>
      conv => whnf
      exact fin0 rfl trivial
  have h1 : ¬ k = 3 := of_decide_eq_false h1
  rw [if_neg h1]
  have el : decide ((((stpV l).length : Nat) : Int) = 0) = decide (l = []) := by
    rw [decide_eq_decide, List.length_map]
    exact ⟨fun e => List.eq_nil_of_length_eq_zero (by omega), fun e => by rw [e]; rfl⟩
  have er : decide ((((stpV r).length : Nat) : Int) = 0) = decide (r = []) := by
    rw [decide_eq_decide, List.length_map]
    exact ⟨fun e => List.eq_nil_of_length_eq_zero (by omega), fun e => by rw [e]; rfl⟩
  have ek : decide (k = 1 ∨ k = 2) = (decide (k = 1) || decide (k = 2)) := by simp
  rw [ek]
  conv => whnf
  cases e1 : decide (h = 0) with
  | false =>
    rw [Bool.false_and, Bool.and_false, Bool.false_and]
    conv => whnf
    cases decide (k = 1) with
    | true =>
      conv => whnf
      exact fin0 rfl trivial
    | false =>
      conv => whnf
      cases decide (k = 2) with
      | true =>
        conv => whnf
        exact fin0 rfl trivial
      | false =>
        conv => whnf
        exact fin0 rfl trivial
  | true =>
  rw [Bool.true_and]
  conv => whnf
  rw [el]
  cases e2 : decide (l = []) with
  | false =>
    rw [Bool.false_and, Bool.and_false, Bool.false_and]
    conv => whnf
    cases decide (k = 1) with
    | true =>
      conv => whnf
      exact fin0 rfl trivial
    | false =>
      conv => whnf
      cases decide (k = 2) with
      | true =>
        conv => whnf
        exact fin0 rfl trivial
      | false =>
        conv => whnf
        exact fin0 rfl trivial
  | true =>
  rw [Bool.true_and]
  conv => whnf
  rw [er]
  cases e3 : decide (r = []) with
  | false =>
    rw [Bool.and_false, Bool.false_and]
    cases decide (k = 1) with
    | true =>
      conv => whnf
      exact fin0 rfl trivial
    | false =>
      conv => whnf
      cases decide (k = 2) with
      | true =>
        conv => whnf
        exact fin0 rfl trivial
      | false =>
        conv => whnf
        exact fin0 rfl trivial
  | true =>
  rw [Bool.and_true]
  have hm := mcheck_good ⟨n, a⟩ ⟨b1, b2, b3⟩
  cases decide (k = 1) with
  | true =>
    rw [Bool.true_or, Bool.true_and]
    conv => whnf
    refine call0 (hm) ?_
    cases atomOk ⟨n, a⟩ with
    | false =>
      conv => whnf
      exact fin0 rfl trivial
    | true =>
      conv => whnf
      exact fin0 rfl trivial
  | false =>
    rw [Bool.false_or]
    conv => whnf
    cases decide (k = 2) with
    | true =>
      rw [Bool.true_and]
      conv => whnf
      refine call0 (hm) ?_
      cases atomOk ⟨n, a⟩ with
      | false =>
        conv => whnf
        exact fin0 rfl trivial
      | true =>
        conv => whnf
        exact fin0 rfl trivial
    | false =>
      conv => whnf
      exact fin0 rfl trivial
end Go.PV
namespace Go.PV
open Go Go.Proofs
set_option maxRecDepth 100000
theorem aclos_good (l : List Stp) (h : opsB l) : Good Tryz.prog 190 [.sl 5 (stpV l)] [] [.bool (!exprOk l)] [] := by
  refine good_of hP Tryz.func190 (by kernel_rfl) (lv := [0, 2]) (js := []) ⟨rfl, rfl, rfl, rfl, rfl, rfl, _, rfl, ?_⟩
  conv => whnf
  refine call0 (xcheck_good l h) ?_
  cases exprOk l with
  | false =>
    conv => whnf
    exact fin0 rfl trivial
  | true =>
    conv => whnf
    exact fin0 rfl trivial
theorem indexOps_good (l : List (List Stp)) (hl : l.length ≤ 1000000) (g : FuncId) (p : List Stp → Bool) (hg : ∀ t ∈ l, Good Tryz.prog g [.sl 5 (stpV t)] [] [.bool (p t)] []) : Good Tryz.prog 226 [.sl 1 (opsV l), .fn g []] [] [.int .i64 (match l.findIdx? p with | some i => (i : Int) | none => -1)] [] := by
  refine good_of hP Tryz.func226 (by kernel_rfl) (lv := [0, 1, 4, 5, 7, 8, 9, 16]) (js := []) ⟨rfl, rfl, rfl, rfl, rfl, rfl, _, rfl, ?_⟩
  conv => whnf
  refine loop_of hP [0, 1, 4, 5, 7, 8, 9, 16] [] [0, 1, 7, 8] [] [] (fun n st => ∃ k : Nat, n = l.length - k ∧ k ≤ l.length ∧ (∀ j (h : j < l.length), j < k → p l[j] = false) ∧ st = ⟨[(0, .sl 1 (opsV l)), (1, .fn g []), (7, .int .i64 l.length), (8, .int .i64 k)], []⟩) l.length ?_ ?_
  · conv => whnf
    exact ⟨0, rfl, Nat.zero_le _, fun j _ h => by omega, by rw [← List.length_map (f := fun x : List Stp => [V.sl 5 (stpV x)])]; rfl⟩
  · rintro n st ⟨k, rfl, hk, hn, rfl⟩
    conv => whnf
    refine branch_of (fun h => ?_) (fun h => ?_)
    · have h := of_decide_eq_true h
      have hk' : k < l.length := by omega
      conv => whnf
      refine ⟨[.sl 5 (stpV l[k])], idxM hk' rfl, ?_⟩
      conv => whnf
      refine call0 (hg _ (List.getElem_mem hk')) ?_
      cases hp : p l[k] with
      | true =>
        conv => whnf
        refine fin0 ?_ trivial
        have : l.findIdx? p = some k := by
          rw [List.findIdx?_eq_some_iff_getElem]
          exact ⟨hk', hp, fun j hj => by simpa using hn j (by omega) hj⟩
        rw [this]
      | false =>
        conv => whnf
        refine ⟨l.length - (k + 1), by omega, k + 1, rfl, by omega, fun j hj hjk => ?_, ?_⟩
        · by_cases e : j = k
          · subst e; exact hp
          · exact hn j hj (by omega)
        · rw [wr (by omega) (by omega)]; rfl
    · have h := of_decide_eq_false h
      conv => whnf
      refine fin0 ?_ trivial
      have : l.findIdx? p = none := by
        rw [List.findIdx?_eq_none_iff]
        intro x hx
        obtain ⟨j, hj, rfl⟩ := List.getElem_of_mem hx
        exact hn j hj (by omega)
      rw [this]
theorem containsOps_good (l : List (List Stp)) (hl : l.length ≤ 1000000) (g : FuncId) (p : List Stp → Bool) (hg : ∀ t ∈ l, Good Tryz.prog g [.sl 5 (stpV t)] [] [.bool (p t)] []) : Good Tryz.prog 189 [.sl 1 (opsV l), .fn g []] [] [.bool (l.any p)] [] := by
  refine good_of hP Tryz.func189 (by kernel_rfl) (lv := [0, 1, 4]) (js := []) ⟨rfl, rfl, rfl, rfl, rfl, rfl, _, rfl, ?_⟩
  conv => whnf
  refine call0 (indexOps_good l hl g p hg) ?_
  conv => whnf
  exact fin0 (congrArg (fun b : Bool => [V.bool b]) (any_idx l p)) trivial
theorem ract_good (x : Act) (m : Int) (hb : actB x) : Good Tryz.prog 124 [.agg x.c, .int .i64 m] [] [.bool (actOk m x)] [] := by
  obtain ⟨k, n, a, w⟩ := x
  obtain ⟨b1, b2, b3⟩ := hb
  dsimp only at b1 b2 b3
  refine good_of hP Tryz.func124 (by kernel_rfl) (lv := [0, 1, 2, 4, 6, 7, 29]) (js := []) ⟨rfl, rfl, rfl, rfl, rfl, rfl, _, rfl, ?_⟩
  unfold actOk
  dsimp only
  conv => whnf
  refine branch_of (fun h1 => ?_) (fun h1 => ?_)
  · have h1 : k = 1 := of_decide_eq_true h1
    rw [if_pos h1]
    conv => whnf
    refine call0 (fname_good n b1) ?_
    cases nameS n with
    | false =>
      conv => whnf
      exact fin0 rfl trivial
    | true =>
    rw [Bool.true_and]
    conv => whnf
    cases hw : decide (w = 0) with
    | false =>
      conv => whnf
      exact fin0 rfl trivial
    | true =>
    rw [Bool.true_and]
    conv => whnf
    have e : decide ((((opsV a).length : Nat) : Int) ≤ 5) = decide (a.length ≤ 5) := by rw [decide_eq_decide, List.length_map]; omega
    rw [e]
    cases decide (a.length ≤ 5) with
    | false =>
      conv => whnf
      exact fin0 rfl trivial
    | true =>
    rw [Bool.true_and]
    conv => whnf
    refine call0 (containsOps_good a b2 190 (fun l => !exprOk l) (fun t ht => aclos_good t (b3 t ht))) ?_
    conv => whnf
    refine fin0 ?_ trivial
    rw [List.any_eq_not_all_not]
    simp
  have h1 : ¬ k = 1 := of_decide_eq_false h1
  rw [if_neg h1]
  conv => whnf
  refine branch_of (fun h2 => ?_) (fun h2 => ?_)
  · have h2 : k = 2 := of_decide_eq_true h2
    rw [if_pos h2]
    conv => whnf
    cases hn : decide (n = []) with
    | false =>
      conv => whnf
      exact fin0 rfl trivial
    | true =>
    rw [Bool.true_and]
    conv => whnf
    have e : decide ((((opsV a).length : Nat) : Int) = 0) = decide (a = []) := by
      rw [decide_eq_decide, List.length_map]
      exact ⟨fun e => List.eq_nil_of_length_eq_zero (by omega), fun e => by rw [e]; rfl⟩
    rw [e]
    cases decide (a = []) with
    | false =>
      conv => whnf
      exact fin0 rfl trivial
    | true =>
    rw [Bool.true_and]
    conv => whnf
    refine branch_of (fun h3 => ?_) (fun h3 => ?_)
    · have h3 := of_decide_eq_true h3
      conv => whnf
      exact fin0 (by rw [show decide (0 ≤ w ∧ w < m) = decide (w < m) from by rw [decide_eq_decide]; dsimp only at h3; omega]) trivial
    · have h3 := of_decide_eq_false h3
      conv => whnf
      exact fin0 (by rw [decide_eq_false (by dsimp only at h3; omega)]) trivial
  have h2 : ¬ k = 2 := of_decide_eq_false h2
  rw [if_neg h2]
  conv => whnf
  exact fin0 rfl trivial
theorem cclos_good (x : Act) (m : Int) (hb : actB x) : Good Tryz.prog 123 [.agg x.c, .ptr 0 0 0] [.box 0 [.int .i64 m]] [.bool (!actOk m x)] [.box 0 [.int .i64 m]] := by
  refine good_of hP Tryz.func123 (by kernel_rfl) (lv := [0, 1, 2, 3]) (js := []) ⟨rfl, rfl, rfl, rfl, rfl, rfl, _, rfl, ?_⟩
  conv => whnf
  refine call0 (ract_good x m hb) ?_
  conv => whnf
  refine ⟨[], rfl, ?_⟩
  conv => whnf
  exact ⟨⟨⟩, rfl, trivial⟩
end Go.PV
namespace Go.PV
open Go Go.Proofs
set_option maxRecDepth 100000
theorem indexAct_good (l : List Act) (hl : l.length ≤ 1000000) (g : FuncId) (m : Int) (p : Act → Bool) (hg : ∀ t ∈ l, Good Tryz.prog g [.agg t.c, .ptr 0 0 0] [.box 0 [.int .i64 m]] [.bool (p t)] [.box 0 [.int .i64 m]]) : Good Tryz.prog 188 [.sl 4 (actV l), .fn g [.ptr 0 0 0]] [.box 0 [.int .i64 m]] [.int .i64 (match l.findIdx? p with | some i => (i : Int) | none => -1)] [.box 0 [.int .i64 m]] := by
  refine good_of hP Tryz.func188 (by kernel_rfl) (lv := [0, 1, 4, 5, 7, 8, 9, 16]) (js := []) ⟨rfl, rfl, rfl, rfl, rfl, rfl, _, rfl, ?_⟩
  conv => whnf
  refine loop_of hP [0, 1, 4, 5, 7, 8, 9, 16] [] [0, 1, 7, 8] [0] [] (fun n st => ∃ k : Nat, n = l.length - k ∧ k ≤ l.length ∧ (∀ j (h : j < l.length), j < k → p l[j] = false) ∧ st = ⟨[(0, .sl 4 (actV l)), (1, .fn g [.ptr 0 0 0]), (7, .int .i64 l.length), (8, .int .i64 k)], [(0, .box 0 [.int .i64 m])]⟩) l.length ?_ ?_
  · conv => whnf
    exact ⟨0, rfl, Nat.zero_le _, fun j _ h => by omega, by rw [← List.length_map (f := Act.c)]; rfl⟩
  · rintro n st ⟨k, rfl, hk, hn, rfl⟩
    conv => whnf
    refine branch_of (fun h => ?_) (fun h => ?_)
    · have h := of_decide_eq_true h
      have hk' : k < l.length := by omega
      conv => whnf
      refine ⟨Act.c l[k], idxM hk' rfl, ?_⟩
      conv => whnf
      refine callN [(0, 0)] (hg _ (List.getElem_mem hk')) ?_ 
      conv => whnf
      refine ⟨⟨⟩, rfl, ?_⟩
      cases hp : p l[k] with
      | true =>
        have : l.findIdx? p = some k := by
          rw [List.findIdx?_eq_some_iff_getElem]
          exact ⟨hk', hp, fun j hj => by simpa using hn j (by omega) hj⟩
        rw [this]
        conv => whnf
        refine ⟨[], rfl, ?_⟩
        conv => whnf
        exact ⟨⟨⟩, rfl, trivial⟩
      | false =>
        conv => whnf
        refine ⟨l.length - (k + 1), by omega, k + 1, rfl, by omega, fun j hj hjk => ?_, ?_⟩
        · by_cases e : j = k
          · subst e; exact hp
          · exact hn j hj (by omega)
        · rw [wr (by omega) (by omega)]; rfl
    · have h := of_decide_eq_false h
      have : l.findIdx? p = none := by
        rw [List.findIdx?_eq_none_iff]
        intro x hx
        obtain ⟨j, hj, rfl⟩ := List.getElem_of_mem hx
        exact hn j hj (by omega)
      rw [this]
      conv => whnf
      refine ⟨[], rfl, ?_⟩
      conv => whnf
      exact ⟨⟨⟩, rfl, trivial⟩
theorem containsAct_good (l : List Act) (hl : l.length ≤ 1000000) (g : FuncId) (m : Int) (p : Act → Bool) (hg : ∀ t ∈ l, Good Tryz.prog g [.agg t.c, .ptr 0 0 0] [.box 0 [.int .i64 m]] [.bool (p t)] [.box 0 [.int .i64 m]]) : Good Tryz.prog 122 [.sl 4 (actV l), .fn g [.ptr 0 0 0]] [.box 0 [.int .i64 m]] [.bool (l.any p)] [.box 0 [.int .i64 m]] := by
  refine good_of hP Tryz.func122 (by kernel_rfl) (lv := [0, 1, 4]) (js := []) ⟨rfl, rfl, rfl, rfl, rfl, rfl, _, rfl, ?_⟩
  conv => whnf
  refine callN [(0, 0)] (indexAct_good l hl g m p hg) ?_ 
  conv => whnf
  refine ⟨⟨⟩, rfl, ?_⟩
  rw [← any_idx l p]
  conv => whnf
  refine ⟨[], rfl, ?_⟩
  conv => whnf
  exact ⟨⟨⟩, rfl, trivial⟩
theorem hasN_take (l : List Cnd) {k : Nat} (h : k < l.length) : hasN (l.take (k + 1)) = hasN (l.take k) + (if l[k].k = 1 then 1 else 0) := by
  unfold hasN
  rw [← List.take_append_getElem h, List.filter_append, List.length_append]
  congr 1
  by_cases hk : l[k].k = 1
  · simp [hk]
  · simp [hk]
theorem hasN_le (l : List Cnd) : hasN l ≤ l.length := List.length_filter_le _ _
theorem rcheck_good (r : Rul) (hb : rulB r) : Good Tryz.prog 59 [.agg r.v] [] [.int .i64 (if ruleOk r then 0 else 1)] [] := by
  obtain ⟨n, p, c, a⟩ := r
  obtain ⟨b1, b2, b3, b4, b5⟩ := hb
  dsimp only at b1 b2 b3 b4 b5
  refine good_of hP Tryz.func59 (by kernel_rfl) (lv := [0, 1, 2, 3, 5, 51, 53, 54, 55, 56, 61, 64, 71]) (js := []) ⟨rfl, rfl, rfl, rfl, rfl, rfl, _, rfl, ?_⟩
  unfold ruleOk
  dsimp only
  conv => whnf
  refine call0 (fname_good n b1) ?_
  cases nameS n with
  | false =>
    conv => whnf
    exact fin0 rfl trivial
  | true =>
  rw [Bool.true_and]
  conv => whnf
  refine branch_of (fun h1 => ?_) (fun h1 => ?_)
  · have h1 := of_decide_eq_true h1
    have e : decide (-1000 ≤ p ∧ p ≤ 1000) = false := decide_eq_false (by dsimp only at h1; omega)
    rw [e]
    conv => whnf
    exact fin0 rfl trivial
  have h1 := of_decide_eq_false h1
  conv => whnf
  refine branch_of (fun h2 => ?_) (fun h2 => ?_)
  · have h2 := of_decide_eq_true h2
    have e : decide (-1000 ≤ p ∧ p ≤ 1000) = false := decide_eq_false (by dsimp only at h2; omega)
    rw [e]
    conv => whnf
    exact fin0 rfl trivial
  have h2 := of_decide_eq_false h2
  have e : decide (-1000 ≤ p ∧ p ≤ 1000) = true := decide_eq_true (by dsimp only at h1 h2; omega)
  rw [e, Bool.true_and]
  conv => whnf
  refine branch_of (fun h3 => ?_) (fun h3 => ?_)
  · have h3 := of_decide_eq_true h3
    rw [List.length_map] at h3
    have e : decide (1 ≤ c.length ∧ c.length ≤ 6) = false := decide_eq_false (by dsimp only at h3; omega)
    rw [e]
    conv => whnf
    exact fin0 rfl trivial
  have h3 := of_decide_eq_false h3
  rw [List.length_map] at h3
  conv => whnf
  refine branch_of (fun h4 => ?_) (fun h4 => ?_)
  · have h4 := of_decide_eq_true h4
    rw [List.length_map] at h4
    have e : decide (1 ≤ c.length ∧ c.length ≤ 6) = false := decide_eq_false (by dsimp only at h4; omega)
    rw [e]
    conv => whnf
    exact fin0 rfl trivial
  have h4 := of_decide_eq_false h4
  rw [List.length_map] at h4
  dsimp only at h3 h4
  have e : decide (1 ≤ c.length ∧ c.length ≤ 6) = true := decide_eq_true (by omega)
  rw [e, Bool.true_and]
  have h0 : 0 < c.length := by omega
  have e0 : headK c = c[0].k := by cases c with
    | nil => simp at h0
    | cons x r => rfl
  rw [e0]
  conv => whnf
  refine ⟨Cnd.c c[0], idxM h0 rfl, ?_⟩
  conv => whnf
  refine branch_of (fun h5 => ?_) (fun h5 => ?_)
  · rw [Bool.not_eq_true'] at h5
    have h5 : decide (c[0].k = 1) = false := h5
    rw [h5]
    conv => whnf
    exact fin0 rfl trivial
  rw [Bool.not_eq_false'] at h5
  have h5 : decide (c[0].k = 1) = true := h5
  rw [h5, Bool.true_and]
  conv => whnf
  refine branch_of (fun h6 => ?_) (fun h6 => ?_)
  · have h6 := of_decide_eq_true h6
    rw [List.length_map] at h6
    have e : decide (1 ≤ a.length ∧ a.length ≤ 6) = false := decide_eq_false (by dsimp only at h6; omega)
    rw [e]
    conv => whnf
    exact fin0 rfl trivial
  have h6 := of_decide_eq_false h6
  rw [List.length_map] at h6
  conv => whnf
  refine branch_of (fun h7 => ?_) (fun h7 => ?_)
  · have h7 := of_decide_eq_true h7
    rw [List.length_map] at h7
    have e : decide (1 ≤ a.length ∧ a.length ≤ 6) = false := decide_eq_false (by dsimp only at h7; omega)
    rw [e]
    conv => whnf
    exact fin0 rfl trivial
  have h7 := of_decide_eq_false h7
  rw [List.length_map] at h7
  dsimp only at h6 h7
  have e : decide (1 ≤ a.length ∧ a.length ≤ 6) = true := decide_eq_true (by omega)
  rw [e, Bool.true_and]
  conv => whnf
  refine loop_of hP [0, 1, 2, 3, 5, 51, 53, 54, 55, 56, 61, 64, 71] [] [1, 2, 3, 53, 54, 55] [65, 67] [] (fun m st => ∃ k : Nat, m = c.length - k ∧ k ≤ c.length ∧ c.all condOk = (c.drop k).all condOk ∧ st = ⟨[(1, .ptr 65 0 0), (2, .int .i64 0), (3, .ptr 67 0 0), (53, .sl 6 (cndV c)), (54, .int .i64 c.length), (55, .int .i64 k)], [(65, .box 0 (Rul.v ⟨n, p, c, a⟩)), (67, .box 0 [.int .i64 (hasN (c.take k))])]⟩) c.length ?_ ?_
  · conv => whnf
    exact ⟨0, rfl, Nat.zero_le _, rfl, by rw [← List.length_map (f := Cnd.c)]; rfl⟩
  · rintro m st ⟨k, rfl, hk, he, rfl⟩
    conv => whnf
    refine branch_of (fun h => ?_) (fun h => ?_)
    · have h := of_decide_eq_true h
      have hk' : k < c.length := by omega
      rw [List.drop_eq_getElem_cons hk', List.all_cons] at he
      have hht := hasN_take c hk'
      have hhl := hasN_le (c.take k)
      rw [List.length_take] at hhl
      conv => whnf
      refine ⟨Cnd.c c[k], idxM hk' rfl, ?_⟩
      conv => whnf
      refine call0 (rcond_good c[k] (b3 _ (List.getElem_mem hk'))) ?_
      cases hc : condOk c[k] with
      | false =>
        rw [hc, Bool.false_and] at he
        rw [he]
        conv => whnf
        exact fin0 rfl trivial
      | true =>
        rw [hc, Bool.true_and] at he
        conv => whnf
        refine branch_of (fun g => ?_) (fun g => ?_)
        · have g : c[k].k = 1 := of_decide_eq_true g
          rw [if_pos g] at hht
          conv => whnf
          refine ⟨c.length - (k + 1), by omega, k + 1, rfl, by omega, he, ?_⟩
          rw [hht, wr (by omega) (by omega), wr (by omega) (by omega)]; rfl
        · have g : ¬ c[k].k = 1 := of_decide_eq_false g
          rw [if_neg g, Nat.add_zero] at hht
          conv => whnf
          refine ⟨c.length - (k + 1), by omega, k + 1, rfl, by omega, he, ?_⟩
          rw [hht, wr (by omega) (by omega)]; rfl
    · have h := of_decide_eq_false h
      have hd : c.drop k = [] := List.drop_eq_nil_iff.2 (by omega)
      rw [hd] at he
      rw [he, List.take_of_length_le (by omega), show (([] : List Cnd).all condOk) = true from rfl, Bool.true_and]
      conv => whnf
      refine callN [(67, 0)] (containsAct_good a b4 123 (hasN c) (fun x => !actOk (hasN c) x) (fun t ht => cclos_good t (hasN c) (b5 t ht))) ?_ 
      conv => whnf
      refine ⟨⟨⟩, rfl, ?_⟩
      have e9 : (a.any fun x => !actOk (hasN c) x) = !(a.all (actOk (hasN c))) := by rw [List.any_eq_not_all_not]; simp
      rw [e9]
      cases a.all (actOk (hasN c)) with
      | true =>
        conv => whnf
        exact fin0 rfl trivial
      | false =>
        conv => whnf
        exact fin0 rfl trivial
end Go.PV
namespace Go.PV
open Go Go.Proofs
set_option maxRecDepth 100000
theorem wk1 : toksR [112, 40, 88, 44, 45, 49, 41] = [⟨1, [112], (1, 1)⟩, ⟨5, [40], (1, 2)⟩, ⟨2, [88], (1, 3)⟩, ⟨5, [44], (1, 4)⟩, ⟨3, [45, 49], (1, 5)⟩, ⟨5, [41], (1, 7)⟩] := by kernel_rfl
theorem wk1p : posR [112, 40, 88, 44, 45, 49, 41] = (0, 0) := by kernel_rfl
theorem wk1e : errR [112, 40, 88, 44, 45, 49, 41] = 0 := by kernel_rfl
theorem wk2 : toksR [97, 10, 32, 63] = [] := by kernel_rfl
theorem wk2p : posR [97, 10, 32, 63] = (2, 2) := by kernel_rfl
theorem wk2e : errR [97, 10, 32, 63] = 6 := by kernel_rfl
end Go.PV
namespace Go.PV
open Go Go.Proofs
set_option maxRecDepth 100000
theorem atomText_good (a : Atm) (h : atmB a) : Good Tryz.prog 88 [.agg a.c] [] [.str (if atomOk a then atomT a else []), .int .i64 (if atomOk a then 0 else 1)] [] := by
  refine good_of hP Tryz.func88 (by kernel_rfl) (lv := [0, 1, 2, 3, 4, 5, 7, 11, 14, 15, 16, 17, 28]) (js := []) ⟨rfl, rfl, rfl, rfl, rfl, rfl, _, rfl, ?_⟩
  conv => whnf
  refine call0 (mcheck_good a h) ?_
  cases hk : atomOk a with
  | false =>
    conv => whnf
    exact fin0 rfl trivial
  | true =>
    have hl : a.a.length ≤ 5 := by unfold atomOk at hk; simp at hk; exact hk.1.2
    have hok : ∀ t ∈ a.a, termOk t = true := by unfold atomOk at hk; simp at hk; exact hk.2
    have hn : a.n.length ≤ 1000000 := h.1
    conv => whnf
    refine loop_of hP [0, 1, 2, 3, 4, 5, 7, 11, 14, 15, 16, 17, 28] [] [1, 5, 14, 15, 16] [65, 69] [.slot 5 1] (fun n st => ∃ k : Nat, n = a.a.length - k ∧ k ≤ a.a.length ∧ st = ⟨[(1, .ptr 65 0 0), (5, .own 69 0), (14, .sl 4 (trmV a.a)), (15, .int .i64 a.a.length), (16, .int .i64 k)], [(65, .box 0 [.str a.n, .sl 4 (trmV a.a)]), (69, .arr 0 false 1 (strV ((a.a.take k).map termT)))]⟩) a.a.length ?_ ?_
    · conv => whnf
      exact ⟨0, rfl, Nat.zero_le _, by rw [← List.length_map (f := Trm.c)]; rfl⟩
    · rintro n st ⟨k, rfl, hkl, rfl⟩
      conv => whnf
      refine branch_of (fun h1 => ?_) (fun h1 => ?_)
      · have h1 := of_decide_eq_true h1
        have hk' : k < a.a.length := by omega
        conv => whnf
        refine ⟨Trm.c a.a[k], idxM hk' rfl, ?_⟩
        conv => whnf
        refine call0 (term_good a.a[k] (h.2.2 _ (List.getElem_mem hk'))) ?_
        conv => whnf
        refine ⟨⟨⟩, by dsimp only; simp only [List.length_map, List.length_take, List.length_cons, List.length_nil]; omega, ?_⟩
        conv => whnf
        refine ⟨a.a.length - (k + 1), by omega, k + 1, rfl, by omega, ?_⟩
        rw [wr (by omega) (by omega), map_snoc _ a.a hk', show strV ((a.a.take k).map termT ++ [termT a.a[k]]) = strV ((a.a.take k).map termT) ++ [[.str (termT a.a[k])]] from List.map_append]
        rfl
      · have h1 := of_decide_eq_false h1
        have : k = a.a.length := by omega
        subst this
        rw [List.take_length]
        have hjl : (Lib.join (a.a.map termT) [44, 32]).length ≤ 1000000 := by
          by_cases hz : a.a = []
          · rw [hz]; exact Nat.zero_le _
          · have e := congrArg List.length (atomT_join hz)
            have := atomT_len hk
            simp only [List.length_append] at e
            omega
        conv => whnf
        refine branch_of (fun h2 => ?_) (fun h2 => ?_)
        · have h2 := of_decide_eq_true h2
          rw [List.length_map, List.length_map] at h2
          have hz : a.a = [] := List.eq_nil_of_length_eq_zero (by omega)
          conv => whnf
          exact fin0 (by rw [if_pos rfl, if_pos rfl, atomT_nil hz]) trivial
        · have h2 := of_decide_eq_false h2
          rw [List.length_map, List.length_map] at h2
          have hz : a.a ≠ [] := fun e => by rw [e] at h2; exact h2 rfl
          conv => whnf
          refine ⟨⟨⟩, by dsimp only; simp only [List.length_cons, List.length_nil]; omega, ?_⟩
          conv => whnf
          refine call0 (join_good (a.a.map termT) [44, 32] (by simp; omega) (by omega)) ?_
          conv => whnf
          refine ⟨⟨⟩, by dsimp only; simp only [List.length_append, List.length_cons, List.length_nil]; omega, ?_⟩
          conv => whnf
          refine ⟨⟨⟩, by dsimp only; simp only [List.length_append, List.length_cons, List.length_nil]; omega, ?_⟩
          conv => whnf
          refine ⟨by kernel_rfl, ?_⟩
          conv => whnf
          exact fin0 (by rw [if_pos rfl, if_pos rfl, ← atomT_join hz]) trivial
theorem pA : parseA [112, 40, 88, 44, 32, 49, 44, 32, 34, 97, 34, 41] = (⟨[112], [⟨[88], zeroV⟩, ⟨[], ⟨1, 1, []⟩⟩, ⟨[], ⟨3, 0, [97]⟩⟩]⟩, 0) := by decide +kernel
def wkT : Bs := [40, 88, 32, 43, 32, 40, 50, 32, 42, 32, 89, 41, 41, 32, 122]
def wkX : List Stp := [⟨1, [88], zeroV⟩, ⟨2, [], ⟨1, 2, []⟩⟩, ⟨1, [89], zeroV⟩, ⟨5, [], zeroV⟩, ⟨3, [], zeroV⟩]
theorem pX : readX (toksR wkT) 0 = (wkX, 9, 0) := by decide +kernel
theorem pXe : errR wkT = 0 := by decide +kernel
theorem pXa : readA (toksR wkT) 0 = (zeroA, 0, 7) := by decide +kernel
theorem pT : exprOk wkX = true ∧ exprT wkX = [40, 88, 32, 43, 32, 40, 50, 32, 42, 32, 89, 41, 41] := by decide +kernel
theorem pU : atomOk ⟨[112], [⟨[88], zeroV⟩, ⟨[], ⟨1, 1, []⟩⟩, ⟨[], ⟨3, 0, [97]⟩⟩]⟩ = true ∧ atomT ⟨[112], [⟨[88], zeroV⟩, ⟨[], ⟨1, 1, []⟩⟩, ⟨[], ⟨3, 0, [97]⟩⟩]⟩ = [112, 40, 88, 44, 32, 49, 44, 32, 34, 97, 34, 41] := by decide +kernel
theorem wkB : atmB ⟨[112], [⟨[88], zeroV⟩, ⟨[], ⟨1, 1, []⟩⟩, ⟨[], ⟨3, 0, [97]⟩⟩]⟩ := ⟨by decide, by decide, fun t ht => by
  simp only [List.mem_cons, List.mem_nil_iff, or_false] at ht
  rcases ht with rfl | rfl | rfl <;> exact ⟨by decide, by decide⟩⟩
theorem wkXB : opsB wkX := ⟨by decide, fun t ht => by
  simp only [wkX, List.mem_cons, List.mem_nil_iff, or_false] at ht
  rcases ht with rfl | rfl | rfl | rfl | rfl <;> exact ⟨by decide, by decide⟩⟩
end Go.PV
namespace Go.PV
open Go Go.Proofs
set_option maxRecDepth 100000
theorem ways_good : Good Tryz.prog 171 [] [] [.sl 1 (strV wayL)] [] := by
  refine good_of hP Tryz.func171 (by kernel_rfl) (lv := [0]) (js := []) ⟨rfl, rfl, rfl, rfl, rfl, rfl, _, rfl, ?_⟩
  conv => whnf
  exact fin0 rfl trivial
theorem condText_good (c : Cnd) (hb : cndB c) (hk : condOk c = true) : Good Tryz.prog 109 [.agg c.c] [] [.str (condT c)] [] := by
  have h3 := condOk_3 hk
  have hn := condOk_n hk
  obtain ⟨k, a, h, l, r⟩ := c
  obtain ⟨b1, b2, b3, b4, b5, b6, b7⟩ := hb
  dsimp only at b1 b2 b3 b4 b5 b6 b7 h3 hn
  refine good_of hP Tryz.func109 (by kernel_rfl) (lv := [0, 1, 2, 3, 5, 7, 11, 46]) (js := []) ⟨rfl, rfl, rfl, rfl, rfl, rfl, _, rfl, ?_⟩
  unfold condT
  dsimp only
  conv => whnf
  refine branch_of (fun h1 => ?_) (fun h1 => ?_)
  · have h1 : k = 3 := of_decide_eq_true h1
    rw [if_pos h1]
    obtain ⟨_, q1, q2, q3, q4⟩ := h3 h1
    have l1 := exprT_len q3
    have l2 := exprT_len q4
    have l3 := wayT_len h
    conv => whnf
    refine call0 (exprText_good l ⟨b4, b5⟩) ?_
    rw [q3, if_pos rfl]
    conv => whnf
    refine call0 (exprText_good r ⟨b6, b7⟩) ?_
    rw [q4, if_pos rfl]
    conv => whnf
    refine ⟨⟨⟩, by show 1 + (exprT l).length ≤ 9223372036854775807; omega, ?_⟩
    conv => whnf
    refine ⟨⟨⟩, by show (([91] : Bs) ++ exprT l).length + 1 ≤ 9223372036854775807; simp only [List.length_append, List.length_cons, List.length_nil]; omega, ?_⟩
    conv => whnf
    refine call0 (ways_good) ?_
    obtain ⟨j, hj⟩ : ∃ j : Nat, h = j + 1 := ⟨(h - 1).toNat, by omega⟩
    have hjl : j < wayL.length := by show j < 4; omega
    have hw : IntKind.i64.wrap (h - 1) = (j : Int) := by rw [wr (by omega) (by omega)]; omega
    have hwt : wayL[j] = wayT h := by
      unfold wayT
      rw [show (h - 1).toNat = j by omega]
      exact List.getElem_eq_getD _
    conv => whnf
    have hw' : IntKind.i64.wrap (Cnd.h ⟨k, a, h, l, r⟩ - 1) = (j : Int) := hw
    rw [hw']
    refine ⟨[.str (wayT h)], by rw [← hwt]; exact idxM (f := fun t : Bs => [V.str t]) hjl rfl, ?_⟩
    conv => whnf
    generalize wayT h = w at *
    refine ⟨⟨⟩, by show (([91] : Bs) ++ exprT l ++ [32]).length + w.length ≤ 9223372036854775807; simp only [List.length_append, List.length_cons, List.length_nil]; omega, ?_⟩
    conv => whnf
    refine ⟨⟨⟩, by show (([91] : Bs) ++ exprT l ++ [32] ++ w).length + 1 ≤ 9223372036854775807; simp only [List.length_append, List.length_cons, List.length_nil]; omega, ?_⟩
    conv => whnf
    refine ⟨⟨⟩, by show (([91] : Bs) ++ exprT l ++ [32] ++ w ++ [32]).length + (exprT r).length ≤ 9223372036854775807; simp only [List.length_append, List.length_cons, List.length_nil]; omega, ?_⟩
    conv => whnf
    refine ⟨⟨⟩, by show (([91] : Bs) ++ exprT l ++ [32] ++ w ++ [32] ++ exprT r).length + 1 ≤ 9223372036854775807; simp only [List.length_append, List.length_cons, List.length_nil]; omega, ?_⟩
    conv => whnf
    refine ⟨by kernel_rfl, ?_⟩
    conv => whnf
    exact fin0 rfl trivial
  have h1 : ¬ k = 3 := of_decide_eq_false h1
  rw [if_neg h1]
  obtain ⟨_, _, _, _, q1⟩ := hn h1
  have l1 := atomT_len q1
  conv => whnf
  refine call0 (atomText_good a ⟨b1, b2, b3⟩) ?_
  rw [q1, if_pos rfl]
  conv => whnf
  refine branch_of (fun h2 => ?_) (fun h2 => ?_)
  · have h2 : k = 2 := of_decide_eq_true h2
    rw [if_pos h2]
    conv => whnf
    refine ⟨⟨⟩, by show 4 + (atomT a).length ≤ 9223372036854775807; omega, ?_⟩
    conv => whnf
    exact fin0 rfl trivial
  · have h2 : ¬ k = 2 := of_decide_eq_false h2
    rw [if_neg h2]
    conv => whnf
    exact fin0 rfl trivial
theorem actText_good (x : Act) (m : Int) (hm : m ≤ 1000) (hb : actB x) (hk : actOk m x = true) : Good Tryz.prog 110 [.agg x.c] [] [.str (actT x)] [] := by
  have h2 := actOk_2 hk
  have h1 := actOk_1 hk
  have hal := actT_len hm hk
  obtain ⟨k, n, a, w⟩ := x
  obtain ⟨b1, b2, b3⟩ := hb
  dsimp only at b1 b2 b3 h1 h2
  refine good_of hP Tryz.func110 (by kernel_rfl) (lv := [0, 1, 2, 3, 5, 6, 10, 16, 17, 18, 19, 34]) (js := []) ⟨rfl, rfl, rfl, rfl, rfl, rfl, _, rfl, ?_⟩
  unfold actT at hal ⊢
  dsimp only at hal ⊢
  conv => whnf
  refine branch_of (fun g => ?_) (fun g => ?_)
  · have g : k = 2 := of_decide_eq_true g
    rw [if_pos g] at hal ⊢
    obtain ⟨_, _, q1, q2⟩ := h2 g
    conv => whnf
    refine call0 (itoa_good w (by omega) (by omega)) ?_
    rw [List.length_append] at hal
    conv => whnf
    refine ⟨⟨⟩, by show 5 + (Lib.itoa w).length ≤ 9223372036854775807; omega, ?_⟩
    conv => whnf
    exact fin0 rfl trivial
  have g : ¬ k = 2 := of_decide_eq_false g
  rw [if_neg g] at hal ⊢
  obtain ⟨_, q1, q2, q3, q4⟩ := h1 g
  conv => whnf
  refine loop_of hP [0, 1, 2, 3, 5, 6, 10, 16, 17, 18, 19, 34] [] [1, 2, 3, 16, 17, 18] [65, 67] [.slot 3 1] (fun mm st => ∃ i : Nat, mm = a.length - i ∧ i ≤ a.length ∧ st = ⟨[(1, .ptr 65 0 0), (2, .str []), (3, .own 67 0), (16, .sl 1 (opsV a)), (17, .int .i64 a.length), (18, .int .i64 i)], [(65, .box 0 (Act.c ⟨k, n, a, w⟩)), (67, .arr 0 false 1 (strV ((a.take i).map exprT)))]⟩) a.length ?_ ?_
  · conv => whnf
    exact ⟨0, rfl, Nat.zero_le _, by rw [← List.length_map (f := fun x : List Stp => [V.sl 5 (stpV x)])]; rfl⟩
  · rintro mm st ⟨i, rfl, hi, rfl⟩
    conv => whnf
    refine branch_of (fun h => ?_) (fun h => ?_)
    · have h := of_decide_eq_true h
      have hi' : i < a.length := by omega
      have hok : exprOk a[i] = true := List.all_eq_true.1 q4 _ (List.getElem_mem hi')
      conv => whnf
      refine ⟨[.sl 5 (stpV a[i])], idxM hi' rfl, ?_⟩
      conv => whnf
      refine call0 (exprText_good a[i] (b3 _ (List.getElem_mem hi'))) ?_
      rw [hok, if_pos rfl]
      conv => whnf
      refine ⟨⟨⟩, by dsimp only; simp only [List.length_map, List.length_take, List.length_cons, List.length_nil]; omega, ?_⟩
      conv => whnf
      refine ⟨a.length - (i + 1), by omega, i + 1, rfl, by omega, ?_⟩
      rw [wr (by omega) (by omega), map_snoc _ a hi', show strV ((a.take i).map exprT ++ [exprT a[i]]) = strV ((a.take i).map exprT) ++ [[.str (exprT a[i])]] from List.map_append]
      rfl
    · have h := of_decide_eq_false h
      rw [List.take_of_length_le (by omega)]
      conv => whnf
      refine branch_of (fun h5 => ?_) (fun h5 => ?_)
      · have h5 := of_decide_eq_true h5
        rw [List.length_map, List.length_map] at h5
        have hz : a = [] := List.eq_nil_of_length_eq_zero (by omega)
        rw [if_pos hz]
        conv => whnf
        refine ⟨⟨⟩, by show 1 + n.length ≤ 9223372036854775807; omega, ?_⟩
        conv => whnf
        exact fin0 rfl trivial
      · have h5 := of_decide_eq_false h5
        rw [List.length_map, List.length_map] at h5
        have hz : a ≠ [] := fun e => by rw [e] at h5; exact h5 rfl
        rw [if_neg hz] at hal ⊢
        simp only [List.length_append, List.length_cons, List.length_nil] at hal
        conv => whnf
        refine ⟨⟨⟩, by show 1 + n.length ≤ 9223372036854775807; omega, ?_⟩
        conv => whnf
        refine ⟨⟨⟩, by show (([43] : Bs) ++ n).length + 1 ≤ 9223372036854775807; simp only [List.length_append, List.length_cons, List.length_nil]; omega, ?_⟩
        conv => whnf
        refine call0 (join_good (a.map exprT) [44, 32] (by simp; omega) (by omega)) ?_
        conv => whnf
        refine ⟨⟨⟩, by show (([43] : Bs) ++ n ++ [40]).length + (Lib.join (a.map exprT) [44, 32]).length ≤ 9223372036854775807; simp only [List.length_append, List.length_cons, List.length_nil]; omega, ?_⟩
        conv => whnf
        refine ⟨⟨⟩, by show (([43] : Bs) ++ n ++ [40] ++ Lib.join (a.map exprT) [44, 32]).length + 1 ≤ 9223372036854775807; simp only [List.length_append, List.length_cons, List.length_nil]; omega, ?_⟩
        conv => whnf
        refine ⟨by kernel_rfl, ?_⟩
        conv => whnf
        exact fin0 rfl trivial
end Go.PV
namespace Go.PV
open Go Go.Proofs
set_option maxRecDepth 100000
theorem rtext_good (r : Rul) (hb : rulB r) : Good Tryz.prog 52 [.agg r.v] [] [.str (ruleX r), .int .i64 (ruleE r)] [] := by
  obtain ⟨b1, b2, b3, b4, b5⟩ := hb
  refine good_of hP Tryz.func52 (by kernel_rfl) (lv := [0, 1, 2, 3, 4, 5, 6, 8, 10, 11, 15, 18, 19, 20, 21, 31, 32, 33, 34, 62]) (js := []) ⟨rfl, rfl, rfl, rfl, rfl, rfl, _, rfl, ?_⟩
  conv => whnf
  refine call0 (rcheck_good r ⟨b1, b2, b3, b4, b5⟩) ?_
  unfold ruleX ruleE
  cases hk : ruleOk r with
  | false =>
    conv => whnf
    exact fin0 rfl trivial
  | true =>
  rw [if_pos rfl, if_pos rfl]
  obtain ⟨h1, h2, h3, h4, h5, h6, h7, h8, h9, h10⟩ := ruleOk_all hk
  obtain ⟨l1, l2, l3, l4, l5⟩ := ruleT_len hk
  have hh := hasN_len r.c
  obtain ⟨n, p, c, a⟩ := r
  dsimp only at b1 b2 b3 b4 b5 h1 h2 h3 h4 h5 h6 h7 h8 h9 h10 l2 l3 l4 l5 hh
  conv => whnf
  refine loop_of hP [0, 1, 2, 3, 4, 5, 6, 8, 10, 11, 15, 18, 19, 20, 21, 31, 32, 33, 34, 62] [] [1, 2, 3, 5, 6, 18, 19, 20] [65, 69] [.slot 5 1] (fun mm st => ∃ i : Nat, mm = c.length - i ∧ i ≤ c.length ∧ st = ⟨[(1, .ptr 65 0 0), (2, .str []), (3, .int .i64 0), (5, .own 69 0), (6, .nil), (18, .sl 6 (cndV c)), (19, .int .i64 c.length), (20, .int .i64 i)], [(65, .box 0 (Rul.v ⟨n, p, c, a⟩)), (69, .arr 0 false 1 (strV ((c.take i).map condT)))]⟩) c.length ?_ ?_
  · conv => whnf
    exact ⟨0, rfl, Nat.zero_le _, by rw [← List.length_map (f := Cnd.c)]; rfl⟩
  · rintro mm st ⟨i, rfl, hi, rfl⟩
    conv => whnf
    refine branch_of (fun h => ?_) (fun h => ?_)
    · have h := of_decide_eq_true h
      have hi' : i < c.length := by omega
      have hm := List.getElem_mem hi'
      conv => whnf
      refine ⟨Cnd.c c[i], idxM hi' rfl, ?_⟩
      conv => whnf
      refine call0 (condText_good c[i] (b3 _ hm) (h9 _ hm)) ?_
      conv => whnf
      refine ⟨⟨⟩, by dsimp only; simp only [List.length_map, List.length_take, List.length_cons, List.length_nil]; omega, ?_⟩
      conv => whnf
      refine ⟨c.length - (i + 1), by omega, i + 1, rfl, by omega, ?_⟩
      rw [wr (by omega) (by omega), map_snoc _ c hi', show strV ((c.take i).map condT ++ [condT c[i]]) = strV ((c.take i).map condT) ++ [[.str (condT c[i])]] from List.map_append]
      rfl
    · have h := of_decide_eq_false h
      rw [List.take_of_length_le (by omega)]
      conv => whnf
      refine loop_of hP [0, 1, 2, 3, 4, 5, 6, 8, 10, 11, 15, 18, 19, 20, 21, 31, 32, 33, 34, 62] [] [1, 2, 3, 5, 6, 31, 32, 33] [65, 69, 70] [.slot 6 1] (fun mm st => ∃ i : Nat, mm = a.length - i ∧ i ≤ a.length ∧ st = ⟨[(1, .ptr 65 0 0), (2, .str []), (3, .int .i64 0), (5, .own 69 0), (6, .own 70 0), (31, .sl 4 (actV a)), (32, .int .i64 a.length), (33, .int .i64 i)], [(65, .box 0 (Rul.v ⟨n, p, c, a⟩)), (69, .arr 0 false 1 (strV (c.map condT))), (70, .arr 0 false 1 (strV ((a.take i).map actT)))]⟩) a.length ?_ ?_
      · conv => whnf
        exact ⟨0, rfl, Nat.zero_le _, by rw [← List.length_map (f := Act.c)]; rfl⟩
      · rintro mm st ⟨j, rfl, hj, rfl⟩
        conv => whnf
        refine branch_of (fun g => ?_) (fun g => ?_)
        · have g := of_decide_eq_true g
          have hj' : j < a.length := by omega
          have hm := List.getElem_mem hj'
          conv => whnf
          refine ⟨Act.c a[j], idxM hj' rfl, ?_⟩
          conv => whnf
          refine call0 (actText_good a[j] (hasN c) (by omega) (b5 _ hm) (h10 _ hm)) ?_
          conv => whnf
          refine ⟨⟨⟩, by dsimp only; simp only [List.length_map, List.length_take, List.length_cons, List.length_nil]; omega, ?_⟩
          conv => whnf
          refine ⟨a.length - (j + 1), by omega, j + 1, rfl, by omega, ?_⟩
          rw [wr (by omega) (by omega), map_snoc _ a hj', show strV ((a.take j).map actT ++ [actT a[j]]) = strV ((a.take j).map actT) ++ [[.str (actT a[j])]] from List.map_append]
          rfl
        · have g := of_decide_eq_false g
          rw [List.take_of_length_le (by omega)]
          conv => whnf
          refine ⟨⟨⟩, by show 5 + n.length ≤ 9223372036854775807; omega, ?_⟩
          conv => whnf
          refine ⟨⟨⟩, by show (([114, 117, 108, 101, 32] : Bs) ++ n).length + 1 ≤ 9223372036854775807; simp only [List.length_append, List.length_cons, List.length_nil]; omega, ?_⟩
          conv => whnf
          refine call0 (itoa_good p (by omega) (by omega)) ?_
          conv => whnf
          refine ⟨⟨⟩, by show (([114, 117, 108, 101, 32] : Bs) ++ n ++ [32]).length + (Lib.itoa p).length ≤ 9223372036854775807; simp only [List.length_append, List.length_cons, List.length_nil]; omega, ?_⟩
          conv => whnf
          refine ⟨⟨⟩, by show (([114, 117, 108, 101, 32] : Bs) ++ n ++ [32] ++ Lib.itoa p).length + 2 ≤ 9223372036854775807; simp only [List.length_append, List.length_cons, List.length_nil]; omega, ?_⟩
          conv => whnf
          refine call0 (join_good (c.map condT) [44, 32] (by simp; omega) (by omega)) ?_
          conv => whnf
          refine ⟨⟨⟩, by show (([114, 117, 108, 101, 32] : Bs) ++ n ++ [32] ++ Lib.itoa p ++ [58, 32]).length + (Lib.join (c.map condT) [44, 32]).length ≤ 9223372036854775807; simp only [List.length_append, List.length_cons, List.length_nil]; omega, ?_⟩
          conv => whnf
          refine ⟨⟨⟩, by show (([114, 117, 108, 101, 32] : Bs) ++ n ++ [32] ++ Lib.itoa p ++ [58, 32] ++ Lib.join (c.map condT) [44, 32]).length + 4 ≤ 9223372036854775807; simp only [List.length_append, List.length_cons, List.length_nil]; omega, ?_⟩
          conv => whnf
          refine call0 (join_good (a.map actT) [44, 32] (by simp; omega) (by omega)) ?_
          conv => whnf
          refine ⟨⟨⟩, by show (([114, 117, 108, 101, 32] : Bs) ++ n ++ [32] ++ Lib.itoa p ++ [58, 32] ++ Lib.join (c.map condT) [44, 32] ++ [32, 45, 62, 32]).length + (Lib.join (a.map actT) [44, 32]).length ≤ 9223372036854775807; simp only [List.length_append, List.length_cons, List.length_nil]; omega, ?_⟩
          conv => whnf
          refine ⟨⟨⟩, by show (([114, 117, 108, 101, 32] : Bs) ++ n ++ [32] ++ Lib.itoa p ++ [58, 32] ++ Lib.join (c.map condT) [44, 32] ++ [32, 45, 62, 32] ++ Lib.join (a.map actT) [44, 32]).length + 1 ≤ 9223372036854775807; simp only [List.length_append, List.length_cons, List.length_nil]; omega, ?_⟩
          conv => whnf
          refine ⟨by kernel_rfl, ?_⟩
          conv => whnf
          refine branch_of (fun q => ?_) (fun q => ?_)
          · have q : 20000 < ((ruleT ⟨n, p, c, a⟩).length : Int) := of_decide_eq_true q
            rw [if_pos (show 20000 < (ruleT ⟨n, p, c, a⟩).length by omega), if_neg (by omega)]
            conv => whnf
            exact fin0 rfl trivial
          · have q : ¬ 20000 < ((ruleT ⟨n, p, c, a⟩).length : Int) := of_decide_eq_false q
            rw [if_neg (show ¬ 20000 < (ruleT ⟨n, p, c, a⟩).length by omega), if_pos rfl]
            conv => whnf
            exact fin0 rfl trivial
theorem rword_good (r : Rd) (t : Bs) (hl : r.l.length ≤ 1000000) : Good Tryz.prog 153 [.ptr 0 0 0, .str t] [r.ob] [.bool (r.see 1 t)] [(r.word 1 t).ob] := by
  refine good_of hP Tryz.func153 (by kernel_rfl) (lv := [0, 1, 4, 5, 9]) (js := []) ⟨rfl, rfl, rfl, rfl, rfl, rfl, _, rfl, ?_⟩
  unfold Rd.word
  conv => whnf
  refine callN [(0, 0)] (see_good r 1 t hl) ?_ 
  conv => whnf
  refine ⟨⟨⟩, rfl, ?_⟩
  cases h : r.see 1 t with
  | false =>
    conv => whnf
    refine ⟨[], rfl, ?_⟩
    conv => whnf
    exact ⟨⟨⟩, rfl, trivial⟩
  | true =>
    have := cur_lt' h
    rw [if_pos rfl]
    have hw : IntKind.i64.wrap ((r.i : Int) + 1) = (r.i + 1 : Nat) := by rw [wr (by omega) (by omega)]; rfl
    conv => whnf
    rw [hw]
    refine ⟨[], rfl, ?_⟩
    conv => whnf
    exact ⟨⟨⟩, rfl, trivial⟩
theorem ask_good (r : Rd) (t : Bs) (hl : r.l.length ≤ 1000000) : Good Tryz.prog 92 [.ptr 0 0 0, .str t] [r.ob] [] [(r.want 1 t).ob] := by
  refine good_of hP Tryz.func92 (by kernel_rfl) (lv := [0, 1, 11]) (js := []) ⟨rfl, rfl, rfl, rfl, rfl, rfl, _, rfl, ?_⟩
  unfold Rd.want
  conv => whnf
  refine callN [(0, 0)] (open_good r) ?_ 
  conv => whnf
  refine ⟨⟨⟩, rfl, ?_⟩
  cases ho : r.isOpen with
  | false =>
    have : r.see 1 t = false := by simp [Rd.see, ho]
    rw [this]
    conv => whnf
    refine ⟨[], rfl, ?_⟩
    conv => whnf
    exact ⟨⟨⟩, rfl, trivial⟩
  | true =>
    conv => whnf
    refine callN [(0, 0)] (rword_good r t hl) ?_ 
    conv => whnf
    refine ⟨⟨⟩, rfl, ?_⟩
    unfold Rd.word
    cases hs : r.see 1 t with
    | true =>
      rw [if_pos rfl, if_pos rfl]
      conv => whnf
      refine ⟨[], rfl, ?_⟩
      conv => whnf
      exact ⟨⟨⟩, rfl, trivial⟩
    | false =>
      conv => whnf
      refine ⟨[], rfl, ?_⟩
      conv => whnf
      exact ⟨⟨⟩, rfl, trivial⟩
theorem rnumber_good (r : Rd) (hb : tokB r.l) : Good Tryz.prog 176 [.ptr 0 0 0] [r.ob] [.int .i64 r.num.1] [r.num.2.ob] := by
  obtain ⟨l, i, b, o, w⟩ := r
  obtain ⟨hl, ht⟩ := hb
  dsimp only at hl ht
  refine good_of hP Tryz.func176 (by kernel_rfl) (lv := [0, 2, 3, 4, 7, 31, 47]) (js := []) ⟨rfl, rfl, rfl, rfl, rfl, rfl, _, rfl, ?_⟩
  unfold Rd.num
  conv => whnf
  refine callN [(0, 0)] (open_good ⟨l, i, b, o, w⟩) ?_ 
  conv => whnf
  refine ⟨⟨⟩, rfl, ?_⟩
  cases ho : Rd.isOpen ⟨l, i, b, o, w⟩ with
  | false =>
    rw [if_neg (by simp)]
    conv => whnf
    refine ⟨[], rfl, ?_⟩
    conv => whnf
    exact ⟨⟨⟩, rfl, trivial⟩
  | true =>
  rw [if_pos rfl]
  conv => whnf
  refine branch_of (fun h => ?_) (fun h => ?_)
  · have h := of_decide_eq_true h
    rw [List.length_map] at h
    have hi : i < l.length := by dsimp only at h; omega
    have hc : Rd.cur ⟨l, i, b, o, w⟩ = some (l[i].k, l[i].t) := by simp [Rd.cur, hi]
    have hw : IntKind.i64.wrap ((i : Int) + 1) = (i + 1 : Nat) := by rw [wr (by omega) (by omega)]; rfl
    rw [hc]
    dsimp only
    conv => whnf
    refine ⟨Tok.c l[i], idxM hi rfl, ?_⟩
    conv => whnf
    refine ⟨by kernel_rfl, ?_⟩
    conv => whnf
    refine branch_of (fun h2 => ?_) (fun h2 => ?_)
    · have h2 : l[i].k = 3 := of_decide_eq_true h2
      rw [if_pos h2]
      conv => whnf
      refine ⟨Tok.c l[i], idxM hi rfl, ?_⟩
      conv => whnf
      refine call0 (number_good l[i].t (ht _ (List.getElem_mem hi))) ?_
      cases hn : numberS l[i].t with
      | none =>
        conv => whnf
        refine ⟨by kernel_rfl, ?_⟩
        conv => whnf
        refine ⟨[], rfl, ?_⟩
        conv => whnf
        exact ⟨⟨⟩, rfl, trivial⟩
      | some v =>
        conv => whnf
        refine ⟨by kernel_rfl, ?_⟩
        conv => whnf
        rw [hw]
        refine ⟨[], rfl, ?_⟩
        conv => whnf
        exact ⟨⟨⟩, rfl, trivial⟩
    · have h2 : ¬ l[i].k = 3 := of_decide_eq_false h2
      rw [if_neg h2]
      conv => whnf
      refine ⟨[], rfl, ?_⟩
      conv => whnf
      exact ⟨⟨⟩, rfl, trivial⟩
  · have h := of_decide_eq_false h
    rw [List.length_map] at h
    have hc : Rd.cur ⟨l, i, b, o, w⟩ = none := by
      unfold Rd.cur; rw [List.getElem?_eq_none (by dsimp only at h ⊢; omega)]; rfl
    rw [hc]
    conv => whnf
    refine ⟨by kernel_rfl, ?_⟩
    conv => whnf
    refine ⟨[], rfl, ?_⟩
    conv => whnf
    exact ⟨⟨⟩, rfl, trivial⟩
end Go.PV
