/- Part of the proof. -/
import Derived.Test.YtfdopmapaaagoaaGreatDoorM5
import Derived.ChangeArms
import Derived.DataElems
import Derived.DataReads
import Derived.SizedLaws
import Derived.ChangeSlices
import Derived.WideShapes
import Derived.ChangeShapes
import Derived.JoinedOf
import Derived.SevenTiedAt
import Derived.Test.YtfdopmapaaagoaaGreatDoorRows
import Derived.LaidMore
import Derived.Stop.LaidErr
import Derived.Lib.LaidTab
import Derived.MakeChecks
import Derived.LaidLaws
set_option linter.unusedVariables false
set_option linter.unusedSimpArgs false
namespace Go.PV
open Go Go.Proofs
set_option maxRecDepth 100000
theorem qfrom_good (l : List Nod) (i : Int) (hl : l.length ≤ 1000000) (hb : ∀ o ∈ l, nodB o) : Good Tryz.prog 44 [.sl 5 (nodV l), .int .i64 i] [] [.int .i64 (fromN l i)] [] := by
  have hll : (nodV l).length = l.length := List.length_map _
  refine good_of hP Tryz.func44 (by kernel_rfl) (lv := [0, 1, 4, 15, 29]) (js := []) ⟨rfl, rfl, rfl, rfl, rfl, rfl, _, rfl, ?_⟩
  unfold fromN
  conv => whnf
  refine call0 (qfml_good l hl hb) ?_
  cases hk : fmlOk l with
  | false =>
    rw [Bool.false_and]
    conv => whnf
    exact fin0 rfl trivial
  | true =>
  rw [Bool.true_and]
  obtain ⟨f1, f2, b, hU⟩ := fmlOk_froms hk
  have hw1 : IntKind.i64.wrap (((nodV l).length : Int) - 1) = (l.length : Int) - 1 := by rw [hll, wr (by omega) (by omega)]
  conv => whnf
  refine call0 (in9_good i 0 (IntKind.i64.wrap (((nodV l).length : Int) - 1))) ?_
  rw [hw1]
  by_cases h : 0 ≤ i ∧ i ≤ (l.length : Int) - 1
  case neg =>
    rw [decide_eq_false h, show decide (0 ≤ i ∧ i < l.length) = false from decide_eq_false (by omega)]
    conv => whnf
    exact fin0 rfl trivial
  rw [decide_eq_true h, show decide (0 ≤ i ∧ i < l.length) = true from decide_eq_true (by omega), if_pos rfl, hU]
  dsimp only
  obtain ⟨n, rfl⟩ : ∃ n : Nat, i = n := ⟨i.toNat, by omega⟩
  have hbl : b.length = l.length := by have := (fromsGo_len hU).1; simpa using this
  have hn : n < b.length := by omega
  rw [Int.toNat_natCast, List.getElem?_eq_getElem hn]
  dsimp only
  generalize hp : (b[n]).1 = p
  conv => whnf
  refine loop_of hP [0, 1, 4, 15, 29] [] [0, 1] [] [] (fun m st => ∃ (j : Nat) (q : Nat × Nat), j = m ∧ j < l.length ∧ b[j]? = some q ∧ q.1 = p ∧ st = ⟨[(0, .sl 5 (nodV l)), (1, .int .i64 j)], []⟩) n ?_ ?_
  · conv => whnf
    exact ⟨n, _, rfl, by omega, List.getElem?_eq_getElem hn, hp, rfl⟩
  · rintro m st ⟨j, q, rfl, hj, hq, hqp, rfl⟩
    have hrow := idxM (f := Nod.c) hj rfl
    obtain ⟨u, hu, hbu, hul, huB⟩ := froms_at hU hj
    rw [hbu] at hq
    cases hq
    have hcs := nod_cases huB hu
    rw [hul] at hcs
    have htk : ∀ t, t < j → (b.take j)[t]? = b[t]? := fun t ht => by rw [List.getElem?_take, if_pos ht]
    generalize hx : l[j] = x at *
    conv => whnf
    refine ⟨_, hrow, ?_⟩
    conv => whnf
    refine call0 (qtwo_good x.k) ?_
    rcases hcs with ⟨ha, h1, h2, h3, h4⟩ | ⟨ha, h1, h2, h3, h4, v, h5, h6⟩ | ⟨ha, h1, h2, h3, v, s, h4, h5, h6, h7, h8, h9⟩
    · rw [decide_eq_false (show ¬ armsN x.k = 2 by omega)]
      conv => whnf
      refine ⟨_, hrow, ?_⟩
      conv => whnf
      refine call0 (qone_good x.k) ?_
      rw [decide_eq_false (show ¬ armsN x.k = 1 by omega)]
      have : (j : Int) = p := by rw [← hqp, h4]
      rw [← this]
      conv => whnf
      exact fin0 rfl trivial
    · rw [decide_eq_false (show ¬ armsN x.k = 2 by omega)]
      conv => whnf
      refine ⟨_, hrow, ?_⟩
      conv => whnf
      refine call0 (qone_good x.k) ?_
      rw [decide_eq_true ha]
      conv => whnf
      refine ⟨_, hrow, ?_⟩
      conv => whnf
      rw [htk _ (by omega)] at h5
      exact ⟨j - 1, by omega, j - 1, v, rfl, by omega, h5, by rw [← hqp, h6], by rw [h2, show (j : Int) - 1 = ((j - 1 : Nat) : Int) by omega]⟩
    · rw [decide_eq_true ha]
      conv => whnf
      refine ⟨_, hrow, ?_⟩
      conv => whnf
      rw [htk _ (by omega)] at h8
      exact ⟨v.1 - 1, by omega, v.1 - 1, s, rfl, by omega, h8, by rw [← hqp, h9], by rw [h7, show (v.1 : Int) - 1 = ((v.1 - 1 : Nat) : Int) by omega]⟩
theorem qftx_good (l : List Nod) (hl : l.length ≤ 1000000) (hb : ∀ o ∈ l, nodB o) (hk : fmlOk l = true) : Good Tryz.prog 48 [.sl 5 (nodV l)] [] [.str (fmlT l)] [] := by
  have hll : (nodV l).length = l.length := List.length_map _
  obtain ⟨f1, f2, b, hU⟩ := fmlOk_froms hk
  refine good_of hP Tryz.func48 (by kernel_rfl) (lv := [0, 2, 3, 4, 8, 15, 47, 58]) (js := []) ⟨rfl, rfl, rfl, rfl, rfl, rfl, _, rfl, ?_⟩
  conv => whnf
  refine loop_of hP [0, 2, 3, 4, 8, 15, 47, 58] [] [0, 3, 4] [67] [.slot 3 1] (fun m st => ∃ k : Nat, m = l.length - k ∧ k ≤ l.length ∧
    st = ⟨[(0, .sl 5 (nodV l)), (3, .own 67 0), (4, .int .i64 k)], [(67, .arr 0 false 1 (strV (txGo [] (l.take k))))]⟩) l.length ?_ ?_
  · conv => whnf
    exact ⟨0, rfl, Nat.zero_le _, rfl⟩
  · rintro m st ⟨k, rfl, hk1, rfl⟩
    have htl : (txGo [] (l.take k)).length = k := by rw [(txGo_len _ _).1, List.length_take]; simp; omega
    have htb := tx_b hk k
    have hsl : (strV (txGo [] (l.take k))).length = k := by rw [List.length_map, htl]
    conv => whnf
    refine branch_of (fun h => ?_) (fun h => ?_)
    · have h := of_decide_eq_true h
      rw [hll] at h
      have hk' : k < l.length := by omega
      have hrow := idxM (f := Nod.c) hk' rfl
      have hbk := hb _ (List.getElem_mem hk')
      have hstep := txGo_step l hk'
      obtain ⟨p, hp, _, hpl, hpB⟩ := froms_at hU hk'
      have hcs := nod_cases hpB hp
      rw [hpl] at hcs
      have hw : IntKind.i64.wrap ((k : Int) + 1) = ((k + 1 : Nat) : Int) := by rw [wr (by omega) (by omega)]; rfl
      generalize hx : l[k] = x at *
      generalize htx : txGo [] (l.take k) = tx at *
      obtain ⟨xk, xa, xx, xy⟩ := x
      have hfin : ∀ s : Bs, nodT tx ⟨xk, xa, xx, xy⟩ = s → strV (txGo [] (l.take (k + 1))) = strV tx ++ [[.str s]] := fun s e => by rw [hstep, e]; exact List.map_append
      rcases hcs with ⟨ha, h1, h2, h3, _⟩ | ⟨ha, h1, h2, h3, h4, _⟩ | ⟨ha, h1, h2, h3, q, s, h4, h5, h6, h7, _, _⟩
      · have hkk : xk = 1 := by dsimp only at ha; rcases arms_cases xk with q | q | q | q <;> omega
        subst hkk
        have e := hfin (atomT xa) (by unfold nodT; rw [if_pos ha])
        conv => whnf
        refine ⟨_, hrow, ?_⟩
        conv => whnf
        refine ⟨_, hrow, ?_⟩
        conv => whnf
        refine call0 (qatomT_good xa h3) ?_
        conv => whnf
        refine ⟨⟨⟩, by dsimp only; rw [hsl]; simp only [List.length_cons, List.length_nil]; omega, ?_⟩
        conv => whnf
        rw [hw]
        refine ⟨l.length - (k + 1), by omega, k + 1, rfl, by omega, ?_⟩
        rw [e]
      · dsimp only at h2
        subst h2
        have e0 : ((k : Int) - 1) = ((k - 1 : Nat) : Int) := by omega
        have hk1l : k - 1 < tx.length := by omega
        have hin := htb _ (List.getElem_mem hk1l)
        have e1 := hfin (wordT xk ++ [32] ++ tx[k - 1]) (by
          unfold nodT
          dsimp only at ha ⊢
          rw [if_neg (by omega), if_pos ha, e0, Int.toNat_natCast, List.getD_eq_getElem?_getD, List.getElem?_eq_getElem hk1l]
          rfl)
        have r1 : (strV tx)[((k - 1 : Nat) : Int).toNat]? = some [.str tx[k - 1]] := by rw [Int.toNat_natCast, List.getElem?_map, List.getElem?_eq_getElem hk1l]; rfl
        rw [e0] at hrow hx
        have hkk : xk = 2 ∨ xk = 5 ∨ xk = 6 ∨ xk = 7 := by dsimp only at ha; rcases arms_cases xk with q | q | q | q <;> omega
        have hnat : ∃ c : Nat, c ≤ 8 ∧ xk = c := ⟨xk.toNat, by omega, by omega⟩
        obtain ⟨c, hc8, hcc⟩ := hnat
        have hwd : (wordT xk).length ≤ 6 := by rcases hkk with rfl | rfl | rfl | rfl <;> decide
        have hqw := qword_good c hc8
        rw [← hcc] at hqw
        conv => whnf
        refine ⟨_, hrow, ?_⟩
        rcases hkk with rfl | rfl | rfl | rfl
        all_goals
          conv => whnf
          refine ⟨_, hrow, ?_⟩
          conv => whnf
          refine call0 (hqw) ?_
          conv => whnf
          refine ⟨⟨⟩, by show _ + 1 ≤ 9223372036854775807; omega, ?_⟩
          conv => whnf
          refine ⟨_, hrow, ?_⟩
          conv => whnf
          refine ⟨⟨⟩, by dsimp only; rw [hsl]; omega, ?_⟩
          conv => whnf
          refine ⟨_, r1, ?_⟩
          conv => whnf
          refine ⟨⟨⟩, by show (_ ++ [32] : Bs).length + (tx[k - 1]).length ≤ 9223372036854775807; simp only [List.length_append, List.length_cons, List.length_nil]; omega, ?_⟩
          conv => whnf
          refine ⟨⟨⟩, by dsimp only; rw [hsl]; simp only [List.length_cons, List.length_nil]; omega, ?_⟩
          conv => whnf
          refine ⟨by kernel_rfl, ?_⟩
          conv => whnf
          rw [hw]
          refine ⟨l.length - (k + 1), by omega, k + 1, rfl, by omega, ?_⟩
          rw [e1]
      · dsimp only at h2 h7
        subst h2
        have e0 : ((k : Int) - 1) = ((k - 1 : Nat) : Int) := by omega
        have e0' : ((q.1 : Int) - 1) = ((q.1 - 1 : Nat) : Int) := by omega
        have hk1l : k - 1 < tx.length := by omega
        have hq1l : q.1 - 1 < tx.length := by omega
        have hin := htb _ (List.getElem_mem hk1l)
        have hin2 := htb _ (List.getElem_mem hq1l)
        have r1 : (strV tx)[((k - 1 : Nat) : Int).toNat]? = some [.str tx[k - 1]] := by rw [Int.toNat_natCast, List.getElem?_map, List.getElem?_eq_getElem hk1l]; rfl
        have r2 : (strV tx)[((q.1 - 1 : Nat) : Int).toNat]? = some [.str tx[q.1 - 1]] := by rw [Int.toNat_natCast, List.getElem?_map, List.getElem?_eq_getElem hq1l]; rfl
        subst h7
        have e1 := hfin ([40] ++ tx[q.1 - 1] ++ [32] ++ wordT xk ++ [32] ++ tx[k - 1] ++ [41]) (by
          unfold nodT
          dsimp only at ha ⊢
          rw [if_neg (by omega), if_neg (by omega), e0, e0', Int.toNat_natCast, Int.toNat_natCast, List.getD_eq_getElem?_getD, List.getD_eq_getElem?_getD, List.getElem?_eq_getElem hk1l, List.getElem?_eq_getElem hq1l]
          rfl)
        rw [e0, e0'] at hrow hx
        have hq2 : q.1 - 1 < k := by omega
        generalize q.1 - 1 = w at *
        generalize tx[w] = t1 at *
        generalize tx[k - 1] = t2 at *
        have hkk : xk = 3 ∨ xk = 4 ∨ xk = 8 := by dsimp only at ha; rcases arms_cases xk with q | q | q | q <;> omega
        have hnat : ∃ c : Nat, c ≤ 8 ∧ xk = c := ⟨xk.toNat, by omega, by omega⟩
        obtain ⟨c, hc8, hcc⟩ := hnat
        have hwd : (wordT xk).length ≤ 6 := by rcases hkk with rfl | rfl | rfl <;> decide
        have hqw := qword_good c hc8
        rw [← hcc] at hqw
        conv => whnf
        refine ⟨_, hrow, ?_⟩
        rcases hkk with rfl | rfl | rfl
        all_goals
          conv => whnf
          refine ⟨_, hrow, ?_⟩
          conv => whnf
          refine ⟨⟨⟩, by dsimp only; rw [hsl]; omega, ?_⟩
          conv => whnf
          refine ⟨_, r2, ?_⟩
          conv => whnf
          refine ⟨⟨⟩, by show 1 + t1.length ≤ 9223372036854775807; omega, ?_⟩
          conv => whnf
          refine ⟨⟨⟩, by show ([40] ++ t1 : Bs).length + 1 ≤ 9223372036854775807; simp only [List.length_append, List.length_cons, List.length_nil]; omega, ?_⟩
          conv => whnf
          refine ⟨_, hrow, ?_⟩
          conv => whnf
          refine call0 (hqw) ?_
          conv => whnf
          refine ⟨⟨⟩, by show ([40] ++ t1 ++ [32] : Bs).length + _ ≤ 9223372036854775807; simp only [List.length_append, List.length_cons, List.length_nil]; omega, ?_⟩
          conv => whnf
          refine ⟨⟨⟩, by show ([40] ++ t1 ++ [32] ++ _ : Bs).length + 1 ≤ 9223372036854775807; simp only [List.length_append, List.length_cons, List.length_nil]; omega, ?_⟩
          conv => whnf
          refine ⟨_, hrow, ?_⟩
          conv => whnf
          refine ⟨⟨⟩, by dsimp only; rw [hsl]; omega, ?_⟩
          conv => whnf
          refine ⟨_, r1, ?_⟩
          conv => whnf
          refine ⟨⟨⟩, by show ([40] ++ t1 ++ [32] ++ _ ++ [32] : Bs).length + t2.length ≤ 9223372036854775807; simp only [List.length_append, List.length_cons, List.length_nil]; omega, ?_⟩
          conv => whnf
          refine ⟨⟨⟩, by show ([40] ++ t1 ++ [32] ++ _ ++ [32] ++ t2 : Bs).length + 1 ≤ 9223372036854775807; simp only [List.length_append, List.length_cons, List.length_nil]; omega, ?_⟩
          conv => whnf
          refine ⟨⟨⟩, by dsimp only; rw [hsl]; simp only [List.length_cons, List.length_nil]; omega, ?_⟩
          conv => whnf
          refine ⟨by kernel_rfl, ?_⟩
          conv => whnf
          rw [hw]
          refine ⟨l.length - (k + 1), by omega, k + 1, rfl, by omega, ?_⟩
          rw [e1]
    · have h := of_decide_eq_false h
      rw [hll] at h
      have e : l.take k = l := List.take_of_length_le (by omega)
      rw [e] at hsl htl ⊢
      have hkl : k - 1 < (txGo [] l).length := by omega
      have hw : IntKind.i64.wrap (((strV (txGo [] l)).length : Int) - 1) = ((k - 1 : Nat) : Int) := by rw [hsl, wr (by omega) (by omega)]; omega
      have e2 : fmlT l = (txGo [] l)[k - 1] := by
        unfold fmlT
        rw [List.getLastD_eq_getLast?, List.getLast?_eq_getElem?, htl, List.getElem?_eq_getElem hkl]; rfl
      have r1 : (strV (txGo [] l))[((k - 1 : Nat) : Int).toNat]? = some [.str (txGo [] l)[k - 1]] := by rw [Int.toNat_natCast, List.getElem?_map, List.getElem?_eq_getElem hkl]; rfl
      rw [e2]
      conv => whnf
      rw [hw]
      refine ⟨⟨⟩, by dsimp only; rw [hsl]; omega, ?_⟩
      conv => whnf
      refine ⟨_, r1, ?_⟩
      conv => whnf
      exact fin0 rfl trivial
theorem qpat_good (p : Pat) (hn : p.n.length ≤ 1000000) (ht : atmB p.t) (hl : p.l.length ≤ 1000000) (hb : ∀ o ∈ p.l, nodB o) : Good Tryz.prog 45 [.agg p.v] [] [.bool (patOk p)] [] := by
  refine good_of hP Tryz.func45 (by kernel_rfl) (lv := [0, 1, 2]) (js := []) ⟨rfl, rfl, rfl, rfl, rfl, rfl, _, rfl, ?_⟩
  unfold patOk
  conv => whnf
  refine call0 (refName_good p.n hn) ?_
  cases nameS p.n with
  | false =>
    conv => whnf
    exact fin0 rfl trivial
  | true =>
  conv => whnf
  refine call0 (refAtom_good p.t ⟨ht.1, ht.2.2⟩) ?_
  cases atomOk p.t with
  | false =>
    conv => whnf
    exact fin0 rfl trivial
  | true =>
  conv => whnf
  refine call0 (qfml_good p.l hl hb) ?_
  conv => whnf
  exact fin0 rfl trivial
theorem qpatT_good (p : Pat) (hk : patOk p = true) (hl : p.l.length ≤ 1000000) (hb : ∀ o ∈ p.l, nodB o) : Good Tryz.prog 47 [.agg p.v] [] [.str (patT p)] [] := by
  refine good_of hP Tryz.func47 (by kernel_rfl) (lv := [0, 1, 2]) (js := []) ⟨rfl, rfl, rfl, rfl, rfl, rfl, _, rfl, ?_⟩
  obtain ⟨h1, h2, h3, h4, h5⟩ := patT_len hk
  obtain ⟨k1, k2, k3⟩ := patOk_all hk
  conv => whnf
  refine ⟨⟨⟩, by show 8 + p.n.length ≤ 9223372036854775807; omega, ?_⟩
  conv => whnf
  refine ⟨⟨⟩, by show ([112, 97, 116, 116, 101, 114, 110, 32] ++ p.n : Bs).length + 2 ≤ 9223372036854775807; simp only [List.length_append, List.length_cons, List.length_nil]; omega, ?_⟩
  conv => whnf
  refine call0 (qatomT_good p.t k2) ?_
  conv => whnf
  refine ⟨⟨⟩, by show ([112, 97, 116, 116, 101, 114, 110, 32] ++ p.n ++ [58, 32] : Bs).length + (atomT p.t).length ≤ 9223372036854775807; simp only [List.length_append, List.length_cons, List.length_nil]; omega, ?_⟩
  conv => whnf
  refine ⟨⟨⟩, by show ([112, 97, 116, 116, 101, 114, 110, 32] ++ p.n ++ [58, 32] ++ atomT p.t : Bs).length + 4 ≤ 9223372036854775807; simp only [List.length_append, List.length_cons, List.length_nil]; omega, ?_⟩
  conv => whnf
  refine call0 (qftx_good p.l hl hb k3) ?_
  conv => whnf
  refine ⟨⟨⟩, by show ([112, 97, 116, 116, 101, 114, 110, 32] ++ p.n ++ [58, 32] ++ atomT p.t ++ [32, 61, 62, 32] : Bs).length + (fmlT p.l).length ≤ 9223372036854775807; simp only [List.length_append, List.length_cons, List.length_nil]; omega, ?_⟩
  conv => whnf
  refine ⟨⟨⟩, by show ([112, 97, 116, 116, 101, 114, 110, 32] ++ p.n ++ [58, 32] ++ atomT p.t ++ [32, 61, 62, 32] ++ fmlT p.l : Bs).length + 1 ≤ 9223372036854775807; simp only [List.length_append, List.length_cons, List.length_nil]; omega, ?_⟩
  conv => whnf
  refine ⟨by kernel_rfl, ?_⟩
  conv => whnf
  exact fin0 rfl trivial
end Go.PV
namespace Go.PV
open Go Go.Proofs
set_option maxRecDepth 100000
theorem Rf.step_i (q : Rf) : q.step.i = q.i + 1 := rfl
theorem Rf.step_l (q : Rf) : q.step.l = q.l := rfl
theorem Rf.take_u (q : Rf) (k : Int) (s : Bs) (h : q.i ≤ q.l.length) : (q.take k s).i ≤ q.l.length := by
  unfold Rf.take
  split
  · rename_i hc
    simp only [Bool.and_eq_true] at hc
    exact is_lt hc.2
  · exact h
theorem Rf.name_u (q : Rf) (h : q.i ≤ q.l.length) : q.name.2.i ≤ q.l.length := by
  unfold Rf.name
  split
  · rename_i t ht
    split
    · exact (tok_lt ht).1
    · exact h
  · exact h
theorem Rf.term_u (q : Rf) (h : q.i ≤ q.l.length) : q.term.2.i ≤ q.l.length := by
  unfold Rf.term
  split
  · rename_i t ht
    split
    · exact (tok_lt ht).1
    · exact h
  · exact h
theorem Rf.args_u : ∀ (f : Nat) (q : Rf), q.i ≤ q.l.length → (Rf.args f q).2.i ≤ q.l.length ∧ (Rf.args f q).1.length + q.i ≤ (Rf.args f q).2.i
  | 0, q, h => ⟨h, by show 0 + q.i ≤ q.i; omega⟩
  | f + 1, q, h => by
    unfold Rf.args
    split
    · rename_i hc
      simp only [Bool.and_eq_true] at hc
      have hlt := is_lt hc.2
      have h1 := Rf.term_u q.step hlt
      have h2 := Rf.term_l q.step
      have h3 := Rf.args_u f q.step.term.2 (by rw [h2.1]; exact h1)
      rw [h2.1, Rf.step_l] at h3
      have := Rf.step_i q
      dsimp only
      rw [List.length_cons]
      exact ⟨h3.1, by omega⟩
    · exact ⟨h, by show 0 + q.i ≤ q.i; omega⟩
theorem Rf.atom_u (q : Rf) (h : q.i ≤ q.l.length) : q.atom.2.i ≤ q.l.length ∧ q.atom.1.a.length ≤ q.l.length := by
  have hn := Rf.name_u q h
  have hl := Rf.name_l q
  cases hc : (q.name.2.ok && q.name.2.is 5 [40]) with
  | false => rw [qatom_no hc]; exact ⟨hn, Nat.zero_le _⟩
  | true =>
    rw [qatom_yes hc]
    simp only [Bool.and_eq_true] at hc
    have hlt := is_lt hc.2
    rw [hl.1] at hlt
    have hup := Rf.name_up hc.1
    have hsi := Rf.step_i q.name.2
    have h1 := Rf.term_u q.name.2.step (by rw [Rf.step_i, Rf.step_l, hl.1]; exact hlt)
    have h2 := Rf.term_l q.name.2.step
    have h3 := Rf.args_u q.name.2.l.length q.name.2.step.term.2 (by rw [h2.1]; exact h1)
    have h4 := Rf.args_l q.name.2.l.length q.name.2.step.term.2
    rw [h2.1, Rf.step_l, hl.1] at h3 h4
    have h5 := Rf.take_u (Rf.args q.l.length q.name.2.step.term.2).2 5 [41] (by rw [h4.1]; exact h3.1)
    rw [h4.1] at h5
    rw [hl.1]
    dsimp only
    rw [List.length_cons]
    exact ⟨h5, by omega⟩
theorem Rf.atom_B {q : Rf} (hb : tokB q.l) (h : q.i ≤ q.l.length) : q.atom.1.n.length ≤ 1000000 ∧ q.atom.1.a.length ≤ 1000000 ∧ ∀ t ∈ q.atom.1.a, t.v.length ≤ 1000000 ∧ t.x.s.length ≤ 1000000 := by
  obtain ⟨a, b⟩ := Rf.atom_b hb
  have := (Rf.atom_u q h).2
  have := hb.1
  exact ⟨a, by omega, b⟩
end Go.PV
namespace Go.PV
open Go
/-! the words as the page looks for them -/
def scanW (A : Int) (t : Tok) (b : Nat) : Nat → Int
  | 0 => 0
  | j + 1 => if armsN ((b + j : Nat) : Int) = A ∧ t.k = 1 ∧ t.t = wordT ((b + j : Nat) : Int) then ((b + j : Nat) : Int) else scanW A t b j
theorem is_tok {q : Rf} {t : Tok} (h : q.tok = some t) (s : Bs) : q.is 1 s = (decide (t.k = 1) && decide (t.t = s)) := by unfold Rf.is; rw [h]
theorem scan0 {q : Rf} (h : q.tok = none) : ∀ L : List (Int × Bs), Rf.wordsF L q = 0
  | [] => rfl
  | (k, s) :: L => by
    unfold Rf.wordsF Rf.is
    rw [h]
    exact scan0 h L
theorem scan1 {q : Rf} {t : Tok} (h : q.tok = some t) : scanW 1 t 2 7 = Rf.wordsF onesL q := by
  unfold onesL
  simp only [Rf.wordsF, is_tok h, scanW]
  rw [show armsN ((2 + 6 : Nat) : Int) = 2 from rfl, show armsN ((2 + 5 : Nat) : Int) = 1 from rfl, show armsN ((2 + 4 : Nat) : Int) = 1 from rfl, show armsN ((2 + 3 : Nat) : Int) = 1 from rfl, show armsN ((2 + 2 : Nat) : Int) = 2 from rfl, show armsN ((2 + 1 : Nat) : Int) = 2 from rfl, show armsN ((2 + 0 : Nat) : Int) = 1 from rfl]
  rw [show wordT ((2 + 5 : Nat) : Int) = [97, 108, 119, 97, 121, 115] from rfl, show wordT ((2 + 4 : Nat) : Int) = [111, 110, 99, 101] from rfl, show wordT ((2 + 3 : Nat) : Int) = [98, 101, 102, 111, 114, 101] from rfl, show wordT ((2 + 0 : Nat) : Int) = [110, 111, 116] from rfl]
  generalize t.t = s
  by_cases hk : t.k = 1
  · by_cases h1 : s = [110, 111, 116]
    · subst h1; simp [hk]
    · by_cases h2 : s = [98, 101, 102, 111, 114, 101]
      · subst h2; simp [hk]
      · by_cases h3 : s = [111, 110, 99, 101]
        · subst h3; simp [hk]
        · simp [hk, h1, h2, h3]
  · simp [hk]
theorem scan2 {q : Rf} {t : Tok} (h : q.tok = some t) : scanW 2 t 3 6 = Rf.wordsF twosL q := by
  unfold twosL
  simp only [Rf.wordsF, is_tok h, scanW]
  rw [show armsN ((3 + 5 : Nat) : Int) = 2 from rfl, show armsN ((3 + 4 : Nat) : Int) = 1 from rfl, show armsN ((3 + 3 : Nat) : Int) = 1 from rfl, show armsN ((3 + 2 : Nat) : Int) = 1 from rfl, show armsN ((3 + 1 : Nat) : Int) = 2 from rfl, show armsN ((3 + 0 : Nat) : Int) = 2 from rfl]
  rw [show wordT ((3 + 5 : Nat) : Int) = [115, 105, 110, 99, 101] from rfl, show wordT ((3 + 1 : Nat) : Int) = [111, 114] from rfl, show wordT ((3 + 0 : Nat) : Int) = [97, 110, 100] from rfl]
  generalize t.t = s
  by_cases hk : t.k = 1
  · by_cases h1 : s = [97, 110, 100]
    · subst h1; simp [hk]
    · by_cases h2 : s = [111, 114]
      · subst h2; simp [hk]
      · simp [hk, h1, h2]
  · simp [hk]
theorem words_up {q : Rf} : ∀ {L : List (Int × Bs)}, Rf.wordsF L q ≠ 0 → q.i < q.l.length
  | [], h => absurd rfl h
  | (k, s) :: L, h => by
    unfold Rf.wordsF at h
    cases hc : q.is 1 s with
    | true => exact Rf.is_up hc
    | false => rw [hc] at h; exact words_up h
/-- frames, as two arrays of numbers -/
abbrev frK (st : List Frm) : List (List V) := st.reverse.map fun p => [V.int .i64 p.1]
abbrev frA (st : List Frm) : List (List V) := st.reverse.map fun p => [V.int .i64 p.2]
theorem frK_cons (p : Frm) (st : List Frm) : frK (p :: st) = frK st ++ [[V.int .i64 p.1]] := by simp [frK]
theorem frA_cons (p : Frm) (st : List Frm) : frA (p :: st) = frA st ++ [[V.int .i64 p.2]] := by simp [frA]
theorem frK_len (st : List Frm) : (frK st).length = st.length := by simp [frK]
theorem frA_len (st : List Frm) : (frA st).length = st.length := by simp [frA]
theorem frK_get (p : Frm) (st : List Frm) : (frK (p :: st))[st.length]? = some [V.int .i64 p.1] := by simp [frK]
theorem frA_get (p : Frm) (st : List Frm) : (frA (p :: st))[st.length]? = some [V.int .i64 p.2] := by simp [frA]
theorem frK_take (p : Frm) (st : List Frm) : (frK (p :: st)).take st.length = frK st := by simp [frK]
theorem frA_take (p : Frm) (st : List Frm) : (frA (p :: st)).take st.length = frA st := by simp [frA]
theorem frK_set (p : Frm) (st : List Frm) (k a : Int) : (frK (p :: st)).set st.length [V.int .i64 k] = frK ((k, a) :: st) := by simp [frK]
theorem frA_set (p : Frm) (st : List Frm) (k a : Int) : (frA (p :: st)).set st.length [V.int .i64 a] = frA ((k, a) :: st) := by simp [frA]
end Go.PV
namespace Go.PV
open Go Go.Proofs
set_option maxRecDepth 100000
theorem qformula_good (q0 : Rf) (hb : tokB q0.l) (hs5 : q0.l.length + 1 ≤ 1000000) (hi0 : q0.i ≤ q0.l.length) : Good Tryz.prog 96 [.ptr 0 0 0] [q0.ob] [.sl 5 (nodV q0.formulaF.1)] [q0.formulaF.2.ob] := by
  have hl0 := hb.1
  refine good_of hP Tryz.func96 (by kernel_rfl) (lv := [0, 2, 3, 4, 5, 6, 7, 8, 9, 10, 11, 12, 13, 14, 18, 28, 44, 47, 63, 83, 100, 113, 120, 148, 159, 175, 178]) (js := [100002, 100006, 113]) ⟨rfl, rfl, rfl, rfl, rfl, rfl, _, rfl, ?_⟩
  generalize hU : q0.formulaF = U
  unfold Rf.formulaF at hU
  conv => whnf
  refine loop_of hP [0, 2, 3, 4, 5, 6, 7, 8, 9, 10, 11, 12, 13, 14, 18, 28, 44, 47, 63, 83, 100, 113, 120, 148, 159, 175, 178] [100002, 100006, 113] [0, 3, 4, 5] [0, 67, 68, 69] [.slot 3 5, .slot 4 1, .slot 5 1] (fun m s => ∃ (f : Nat) (q : Rf) (st : List Frm) (l : List Nod), f = m ∧ q.l = q0.l ∧ q.l.length < f + q.i ∧ q.i ≤ q0.l.length ∧ l.length + st.length ≤ q.i ∧ (∀ p ∈ st, frOk p) ∧ U = Rf.forF f q st l ∧
    s = ⟨[(0, .ptr 0 0 0), (3, .own 67 0), (4, .own 68 0), (5, .own 69 0)], [(0, q.ob), (67, .arr 0 false 5 (nodV l)), (68, .arr 0 false 1 (frK st)), (69, .arr 0 false 1 (frA st))]⟩) (q0.l.length + 1) ?_ ?_
  · conv => whnf
    exact ⟨q0.l.length + 1, q0, [], [], rfl, rfl, by omega, hi0, Nat.zero_le _, (fun p hp => by cases hp), hU.symm, rfl⟩
  · rintro m s ⟨f, ⟨ql, qi, qo⟩, st, l, hmf, hql, hf, hqi, hll, hfr, hU, rfl⟩
    dsimp only at hql hf hqi hll
    subst hql
    obtain ⟨f, rfl⟩ : ∃ g, f = g + 1 := ⟨f - 1, by omega⟩
    subst hmf
    rw [Rf.forF] at hU
    conv => whnf
    cases qo with
    | false =>
      rw [if_neg (by simp)] at hU
      conv => whnf
      rw [hU]
      refine ⟨[], rfl, ?_⟩
      conv => whnf
      exact ⟨⟨⟩, rfl, trivial⟩
    | true =>
    rw [if_pos rfl] at hU
    conv => whnf
    refine callN [(0, 0)] (qtok_good ⟨q0.l, qi, true⟩ hb) ?_ 
    conv => whnf
    refine ⟨⟨⟩, rfl, ?_⟩
    conv => whnf
    refine seq_of hP [0, 2, 3, 4, 5, 6, 7, 8, 9, 10, 11, 12, 13, 14, 18, 28, 44, 47, 63, 83, 100, 113, 120, 148, 159, 175, 178] [100002, 100006, 113] [0, 3, 4, 5, 8] [0, 67, 68, 69] [] (fun s => s = ⟨[(0, .ptr 0 0 0), (3, .own 67 0), (4, .own 68 0), (5, .own 69 0), (8, .int .i64 (Rf.wordsF onesL ⟨q0.l, qi, true⟩))], [(0, (⟨q0.l, qi, true⟩ : Rf).ob), (67, .arr 0 false 5 (nodV l)), (68, .arr 0 false 1 (frK st)), (69, .arr 0 false 1 (frA st))]⟩) ?_ ?_
    · conv => whnf
      cases hz : (⟨q0.l, qi, true⟩ : Rf).tok with
      | none =>
        have h0 := scan0 hz onesL
        conv => whnf
        refine loop_of hP [0, 2, 3, 4, 5, 6, 7, 8, 9, 10, 11, 12, 13, 14, 18, 28, 44, 47, 63, 83, 100, 113, 120, 148, 159, 175, 178] [100002, 100006, 113] [0, 3, 4, 5, 7, 8] [0, 67, 68, 69] [] (fun m s => s = ⟨[(0, .ptr 0 0 0), (3, .own 67 0), (4, .own 68 0), (5, .own 69 0), (7, .bool false), (8, .int .i64 0)], [(0, (⟨q0.l, qi, true⟩ : Rf).ob), (67, .arr 0 false 5 (nodV l)), (68, .arr 0 false 1 (frK st)), (69, .arr 0 false 1 (frA st))]⟩) 0 ?_ ?_
        · conv => whnf
          rfl
        · rintro m s rfl
          rw [h0]
          conv => whnf
      | some t =>
        have h1 := scan1 hz
        conv => whnf
        refine loop_of hP [0, 2, 3, 4, 5, 6, 7, 8, 9, 10, 11, 12, 13, 14, 18, 28, 44, 47, 63, 83, 100, 113, 120, 148, 159, 175, 178] [100002, 100006, 113] [0, 3, 4, 5, 6, 7, 8, 9] [0, 67, 68, 69, 70] [] (fun m s => ∃ j : Nat, m = 7 - j ∧ j ≤ 7 ∧ s = ⟨[(0, .ptr 0 0 0), (3, .own 67 0), (4, .own 68 0), (5, .own 69 0), (6, .ptr 70 0 0), (7, .bool true), (8, .int .i64 (scanW 1 t 2 j)), (9, .int .i64 ((2 + j : Nat) : Int))], [(0, (⟨q0.l, qi, true⟩ : Rf).ob), (67, .arr 0 false 5 (nodV l)), (68, .arr 0 false 1 (frK st)), (69, .arr 0 false 1 (frA st)), (70, .box 0 t.c)]⟩) 7 ?_ ?_
        · conv => whnf
          exact ⟨0, rfl, by omega, rfl⟩
        · rintro m s ⟨j, rfl, hj, rfl⟩
          conv => whnf
          refine branch_of (fun h => ?_) (fun h => ?_)
          · have h := of_decide_eq_true h
            have hw : IntKind.i64.wrap (((2 + j : Nat) : Int) + 1) = ((2 + (j + 1) : Nat) : Int) := by rw [wr (by omega) (by omega)]; omega
            have hsc : scanW 1 t 2 (j + 1) = if armsN ((2 + j : Nat) : Int) = 1 ∧ t.k = 1 ∧ t.t = wordT ((2 + j : Nat) : Int) then ((2 + j : Nat) : Int) else scanW 1 t 2 j := rfl
            conv => whnf
            refine call0 (qone_good ((2 + j : Nat) : Int)) ?_
            by_cases ha : armsN ((2 + j : Nat) : Int) = 1
            · rw [decide_eq_true ha]
              conv => whnf
              refine branch_of (fun hk => ?_) (fun hk => ?_)
              · have hk := of_decide_eq_true hk
                conv => whnf
                refine call0 (qword_good (2 + j) (by omega)) ?_
                conv => whnf
                refine ⟨by kernel_rfl, ?_⟩
                conv => whnf
                refine branch_of (fun ht => ?_) (fun ht => ?_)
                · have ht := of_decide_eq_true ht
                  conv => whnf
                  rw [hw]
                  exact ⟨7 - (j + 1), by omega, j + 1, rfl, by omega, by rw [hsc, if_pos ⟨ha, hk, ht⟩]⟩
                · have ht := of_decide_eq_false ht
                  conv => whnf
                  rw [hw]
                  exact ⟨7 - (j + 1), by omega, j + 1, rfl, by omega, by rw [hsc, if_neg (fun x => ht x.2.2)]⟩
              · have hk := of_decide_eq_false hk
                conv => whnf
                refine ⟨by kernel_rfl, ?_⟩
                conv => whnf
                rw [hw]
                exact ⟨7 - (j + 1), by omega, j + 1, rfl, by omega, by rw [hsc, if_neg (fun x => hk x.2.1)]⟩
            · rw [decide_eq_false ha]
              conv => whnf
              refine ⟨by kernel_rfl, ?_⟩
              conv => whnf
              rw [hw]
              exact ⟨7 - (j + 1), by omega, j + 1, rfl, by omega, by rw [hsc, if_neg (fun x => ha x.1)]⟩
          · have h := of_decide_eq_false h
            have hj7 : j = 7 := by omega
            subst hj7
            rw [← h1]
            conv => whnf
    rintro s rfl
    conv => whnf
    have hup := words_up (q := ⟨q0.l, qi, true⟩) (L := onesL)
    have hof := ones_fr (q := ⟨q0.l, qi, true⟩)
    generalize Rf.wordsF onesL ⟨q0.l, qi, true⟩ = w at *
    have hw1 : IntKind.i64.wrap ((qi : Int) + 1) = ((qi + 1 : Nat) : Int) := by rw [wr (by omega) (by omega)]; rfl
    refine branch_of (fun h => ?_) (fun h => ?_)
    · have h : ¬ w = 0 := by simpa using h
      have hlt : qi < q0.l.length := hup h
      rw [if_neg h] at hU
      conv => whnf
      rw [hw1]
      refine ⟨⟨⟩, by dsimp only; rw [frK_len]; simp only [List.length_cons, List.length_nil]; omega, ?_⟩
      conv => whnf
      refine ⟨⟨⟩, by dsimp only; rw [frA_len]; simp only [List.length_cons, List.length_nil]; omega, ?_⟩
      conv => whnf
      refine ⟨f, by omega, f, ⟨q0.l, qi + 1, true⟩, (w, 0) :: st, l, rfl, rfl, by dsimp only; omega, by dsimp only; omega, by dsimp only; rw [List.length_cons]; omega, ?_, hU, ?_⟩
      · intro p hp
        rcases List.mem_cons.1 hp with rfl | hp
        · exact hof.elim (fun x => .inr (.inl x)) (fun x => absurd x h)
        · exact hfr p hp
      · rw [frK_cons, frA_cons]
    have h : w = 0 := by simpa using h
    rw [if_pos h] at hU
    clear hup hof
    conv => whnf
    refine callN [(0, 0)] (qis_good ⟨q0.l, qi, true⟩ 5 [40] hb) ?_ 
    conv => whnf
    refine ⟨⟨⟩, rfl, ?_⟩
    cases hs : (⟨q0.l, qi, true⟩ : Rf).is 5 [40] with
    | true =>
      rw [hs, if_pos rfl] at hU
      have hlt : qi < q0.l.length := is_lt hs
      conv => whnf
      rw [hw1]
      refine ⟨⟨⟩, by dsimp only; rw [frK_len]; simp only [List.length_cons, List.length_nil]; omega, ?_⟩
      conv => whnf
      refine ⟨⟨⟩, by dsimp only; rw [frA_len]; simp only [List.length_cons, List.length_nil]; omega, ?_⟩
      conv => whnf
      refine ⟨f, by omega, f, ⟨q0.l, qi + 1, true⟩, (0, 0) :: st, l, rfl, rfl, by dsimp only; omega, by dsimp only; omega, by dsimp only; rw [List.length_cons]; omega, ?_, hU, ?_⟩
      · intro p hp
        rcases List.mem_cons.1 hp with rfl | hp
        · exact .inl rfl
        · exact hfr p hp
      · rw [frK_cons, frA_cons]
    | false =>
    rw [hs, if_neg (by simp)] at hU
    conv => whnf
    refine callN [(0, 0)] (qatom_good ⟨q0.l, qi, true⟩ hb) ?_ 
    conv => whnf
    refine ⟨⟨⟩, rfl, ?_⟩
    have hal := Rf.atom_l ⟨q0.l, qi, true⟩
    have hau := Rf.atom_u ⟨q0.l, qi, true⟩ hqi
    have hap := Rf.atom_up (q := ⟨q0.l, qi, true⟩)
    generalize (⟨q0.l, qi, true⟩ : Rf).atom = y at *
    obtain ⟨a, ⟨ql, qj, qo⟩⟩ := y
    dsimp only at hal hau hap hU
    obtain ⟨hal, _⟩ := hal
    subst hal
    cases qo with
    | false =>
      rw [if_neg (by simp)] at hU
      conv => whnf
      rw [hU]
      refine ⟨[], rfl, ?_⟩
      conv => whnf
      exact ⟨⟨⟩, rfl, trivial⟩
    | true =>
    have hap := hap rfl
    rw [if_pos rfl] at hU
    conv => whnf
    refine ⟨⟨⟩, by dsimp only; rw [List.length_map]; simp only [List.length_cons, List.length_nil]; omega, ?_⟩
    conv => whnf
    have hnv : nodV (l ++ [⟨1, a, 0, 0⟩]) = nodV l ++ [[.int .i64 1, .str a.n, .sl 4 (trmV a.a), .int .i64 0, .int .i64 0]] := List.map_append
    refine loop_of hP [0, 2, 3, 4, 5, 6, 7, 8, 9, 10, 11, 12, 13, 14, 18, 28, 44, 47, 63, 83, 100, 113, 120, 148, 159, 175, 178] [100002, 100006, 113] [0, 3, 4, 5] [0, 67, 68, 69] [] (fun m s => ∃ (q : Rf) (st2 : List Frm) (l2 : List Nod), m = st2.length ∧ q.l = q0.l ∧ q.ok = true ∧ qj ≤ q.i ∧ q.i ≤ q0.l.length ∧ l2.length + st2.length ≤ q.i ∧ (∀ p ∈ st2, frOk p) ∧ Rf.pclo st (l ++ [⟨1, a, 0, 0⟩]) ⟨q0.l, qj, true⟩ = Rf.pclo st2 l2 q ∧
      s = ⟨[(0, .ptr 0 0 0), (3, .own 67 0), (4, .own 68 0), (5, .own 69 0)], [(0, q.ob), (67, .arr 0 false 5 (nodV l2)), (68, .arr 0 false 1 (frK st2)), (69, .arr 0 false 1 (frA st2))]⟩) st.length ?_ ?_
    · conv => whnf
      exact ⟨⟨q0.l, qj, true⟩, st, l ++ [⟨1, a, 0, 0⟩], rfl, rfl, rfl, Nat.le_refl _, hau.1, by rw [List.length_append]; simp only [List.length_cons, List.length_nil]; omega, hfr, rfl, by rw [hnv]⟩
    · rintro m s ⟨⟨ql2, qk, qo2⟩, st2, l2, hm, hql2, hqo2, hqj, hqk, hll2, hfr2, hC, rfl⟩
      dsimp only at hql2 hqo2 hqj hqk hll2
      subst hql2
      subst hqo2
      subst hm
      rw [hC] at hU
      cases st2 with
      | nil =>
        rw [Rf.pclo] at hU
        rw [if_pos rfl] at hU
        dsimp only at hU
        conv => whnf
        rw [hU]
        refine ⟨[], rfl, ?_⟩
        conv => whnf
        exact ⟨⟨⟩, rfl, trivial⟩
      | cons o st3 =>
        obtain ⟨k, b⟩ := o
        have h0 : decide (0 < ((frK ((k, b) :: st3)).length : Int)) = true := by rw [decide_eq_true_iff, frK_len, List.length_cons]; omega
        have h1z : decide (((frK ((k, b) :: st3)).length : Int) = 0) = false := by rw [decide_eq_false_iff_not, frK_len, List.length_cons]; omega
        rw [List.length_cons] at hll2
        have hlK : IntKind.i64.wrap (((frK ((k, b) :: st3)).length : Int) - 1) = (st3.length : Nat) := by rw [frK_len, List.length_cons, wr (by omega) (by omega)]; omega
        have hlA : IntKind.i64.wrap (((frA ((k, b) :: st3)).length : Int) - 1) = (st3.length : Nat) := by rw [frA_len, List.length_cons, wr (by omega) (by omega)]; omega
        have hlN : IntKind.i64.wrap (((nodV l2).length : Int) - 1) = (l2.length : Int) - 1 := by rw [List.length_map, wr (by omega) (by omega)]
        have hbK : (0 : Int) ≤ ((st3.length : Nat) : Int) ∧ ((st3.length : Nat) : Int) < ((frK ((k, b) :: st3)).length : Int) := by rw [frK_len, List.length_cons]; omega
        have hbA : (0 : Int) ≤ ((st3.length : Nat) : Int) ∧ ((st3.length : Nat) : Int) < ((frA ((k, b) :: st3)).length : Int) := by rw [frA_len, List.length_cons]; omega
        have hgK : (frK ((k, b) :: st3))[((st3.length : Nat) : Int).toNat]? = some [.int .i64 k] := frK_get _ _
        have hgA : (frA ((k, b) :: st3))[((st3.length : Nat) : Int).toNat]? = some [.int .i64 b] := frA_get _ _
        conv => whnf
        rw [h0]
        conv => whnf
        rw [hlK]
        refine ⟨⟨⟩, hbK, ?_⟩
        conv => whnf
        refine ⟨_, hgK, ?_⟩
        conv => whnf
        refine branch_of (fun hk0 => ?_) (fun hk0 => ?_)
        · have hk0 : ¬ k = 0 := by simpa using hk0
          rw [Rf.pclo, if_neg hk0] at hU hC
          conv => whnf
          rw [hlK]
          refine ⟨⟨⟩, hbK, ?_⟩
          conv => whnf
          refine ⟨_, hgK, ?_⟩
          conv => whnf
          refine seq_of hP [0, 2, 3, 4, 5, 6, 7, 8, 9, 10, 11, 12, 13, 14, 18, 28, 44, 47, 63, 83, 100, 113, 120, 148, 159, 175, 178] [100002, 100006, 113] [0, 3, 4, 5, 12] [0, 67, 68, 69, 76] [.dat 76 2 4] (fun s => ∃ (x : Nod) (q3 : Rf), q3.l = q0.l ∧ q3.ok = true ∧ qk ≤ q3.i ∧ q3.i ≤ q0.l.length ∧ Rf.pclo st (l ++ [⟨1, a, 0, 0⟩]) ⟨q0.l, qj, true⟩ = Rf.pclo st3 (l2 ++ [x]) q3 ∧
            s = ⟨[(0, .ptr 0 0 0), (3, .own 67 0), (4, .own 68 0), (5, .own 69 0), (12, .ptr 76 0 0)], [(0, q3.ob), (67, .arr 0 false 5 (nodV l2)), (68, .arr 0 false 1 (frK ((k, b) :: st3))), (69, .arr 0 false 1 (frA ((k, b) :: st3))), (76, .box 0 x.c)]⟩) ?_ ?_
          · conv => whnf
            refine call0 (qtwo_good k) ?_
            rcases hfr2 (k, b) List.mem_cons_self with hk | hk | hk
            · exact absurd hk hk0
            · have hk : armsN k = 1 := hk
              rw [if_neg (by omega : ¬ armsN k = 2)] at hC
              rw [decide_eq_false (by omega : ¬ armsN k = 2)]
              conv => whnf
              refine ⟨⟨k, zeroA, (l2.length : Int) - 1, 0⟩, ⟨q0.l, qk, true⟩, rfl, rfl, Nat.le_refl _, hqk, ?_, ?_⟩
              · rw [hC]
              · rw [hlN]; rfl
            · have hk : armsN k = 2 := hk
              rw [if_pos hk] at hC hU
              rw [decide_eq_true hk]
              conv => whnf
              refine callN [(0, 0)] (qtake_good ⟨q0.l, qk, true⟩ 5 [41] hb) ?_ 
              conv => whnf
              refine ⟨⟨⟩, rfl, ?_⟩
              have htk := Rf.take_ok2 (q := ⟨q0.l, qk, true⟩) (k := 5) (s := [41])
              have htu := Rf.take_u ⟨q0.l, qk, true⟩ 5 [41] hqk
              have htl := Rf.take_l ⟨q0.l, qk, true⟩ 5 [41]
              generalize (⟨q0.l, qk, true⟩ : Rf).take 5 [41] = z at *
              obtain ⟨zl, zi, zo⟩ := z
              dsimp only at htl htu
              obtain ⟨htl, hti⟩ := htl
              subst htl
              cases zo with
              | false =>
                rw [if_neg (by simp), if_neg (by simp)] at hU
                conv => whnf
                rw [hU]
                refine ⟨[], rfl, ?_⟩
                conv => whnf
                exact ⟨⟨⟩, rfl, trivial⟩
              | true =>
                rw [if_pos rfl] at hC
                conv => whnf
                rw [hlA]
                refine ⟨⟨⟩, hbA, ?_⟩
                conv => whnf
                refine ⟨_, hgA, ?_⟩
                conv => whnf
                refine ⟨⟨k, zeroA, b, (l2.length : Int) - 1⟩, ⟨q0.l, zi, true⟩, rfl, rfl, hti, htu, ?_, ?_⟩
                · rw [hC]
                · rw [hlN]; rfl
          · rintro s ⟨x, ⟨ql3, qm, qo3⟩, hql3, hqo3, hqm1, hqm2, hC3, rfl⟩
            dsimp only at hql3 hqo3 hqm1 hqm2
            subst hql3
            subst hqo3
            conv => whnf
            refine ⟨⟨⟩, by dsimp only; rw [List.length_map]; simp only [List.length_cons, List.length_nil]; omega, ?_⟩
            conv => whnf
            refine ⟨true, trivial, ?_⟩
            rw [hlK]
            conv => whnf
            refine ⟨⟨⟩, by dsimp only; rw [frK_len, List.length_cons]; omega, ?_⟩
            conv => whnf
            refine ⟨true, trivial, ?_⟩
            rw [hlA]
            conv => whnf
            refine ⟨⟨⟩, by dsimp only; rw [frA_len, List.length_cons]; omega, ?_⟩
            conv => whnf
            refine ⟨by kernel_rfl, ?_⟩
            conv => whnf
            have htK : (frK ((k, b) :: st3)).take ((st3.length : Nat) : Int).toNat = frK st3 := frK_take _ _
            have htA : (frA ((k, b) :: st3)).take ((st3.length : Nat) : Int).toNat = frA st3 := frA_take _ _
            refine ⟨st3.length, by simp, ⟨q0.l, qm, true⟩, st3, l2 ++ [x], rfl, rfl, rfl, by dsimp only; omega, hqm2, by rw [List.length_append]; simp only [List.length_cons, List.length_nil]; omega, fun p hp => hfr2 p (List.mem_cons_of_mem _ hp), hC3, ?_⟩
            rw [htK, htA, show nodV (l2 ++ [x]) = nodV l2 ++ [x.c] from List.map_append]
        · have hk0 : k = 0 := by simpa using hk0
          subst hk0
          rw [Rf.pclo, if_pos rfl] at hU
          dsimp only at hU
          rw [if_pos rfl] at hU
          conv => whnf
          rw [h1z]
          conv => whnf
          refine callN [(0, 0)] (qtok_good ⟨q0.l, qk, true⟩ hb) ?_ 
          conv => whnf
          refine ⟨⟨⟩, rfl, ?_⟩
          conv => whnf
          refine seq_of hP [0, 2, 3, 4, 5, 6, 7, 8, 9, 10, 11, 12, 13, 14, 18, 28, 44, 47, 63, 83, 100, 113, 120, 148, 159, 175, 178] [100002, 100006, 113] [0, 3, 4, 5, 8] [0, 67, 68, 69] [] (fun s => s = ⟨[(0, .ptr 0 0 0), (3, .own 67 0), (4, .own 68 0), (5, .own 69 0), (8, .int .i64 (Rf.wordsF twosL ⟨q0.l, qk, true⟩))], [(0, (⟨q0.l, qk, true⟩ : Rf).ob), (67, .arr 0 false 5 (nodV l2)), (68, .arr 0 false 1 (frK ((0, b) :: st3))), (69, .arr 0 false 1 (frA ((0, b) :: st3)))]⟩) ?_ ?_
          · conv => whnf
            cases hz : (⟨q0.l, qk, true⟩ : Rf).tok with
            | none =>
              have h0 := scan0 hz twosL
              conv => whnf
              refine loop_of hP [0, 2, 3, 4, 5, 6, 7, 8, 9, 10, 11, 12, 13, 14, 18, 28, 44, 47, 63, 83, 100, 113, 120, 148, 159, 175, 178] [100002, 100006, 113] [0, 3, 4, 5, 7, 8] [0, 67, 68, 69] [] (fun m s => s = ⟨[(0, .ptr 0 0 0), (3, .own 67 0), (4, .own 68 0), (5, .own 69 0), (7, .bool false), (8, .int .i64 0)], [(0, (⟨q0.l, qk, true⟩ : Rf).ob), (67, .arr 0 false 5 (nodV l2)), (68, .arr 0 false 1 (frK ((0, b) :: st3))), (69, .arr 0 false 1 (frA ((0, b) :: st3)))]⟩) 0 ?_ ?_
              · conv => whnf
                rfl
              · rintro m s rfl
                rw [h0]
                conv => whnf
            | some t =>
              have h1 := scan2 hz
              conv => whnf
              refine loop_of hP [0, 2, 3, 4, 5, 6, 7, 8, 9, 10, 11, 12, 13, 14, 18, 28, 44, 47, 63, 83, 100, 113, 120, 148, 159, 175, 178] [100002, 100006, 113] [0, 3, 4, 5, 7, 8, 13, 14] [0, 67, 68, 69, 77] [] (fun m s => ∃ j : Nat, m = 6 - j ∧ j ≤ 6 ∧ s = ⟨[(0, .ptr 0 0 0), (3, .own 67 0), (4, .own 68 0), (5, .own 69 0), (7, .bool true), (8, .int .i64 (scanW 2 t 3 j)), (13, .ptr 77 0 0), (14, .int .i64 ((3 + j : Nat) : Int))], [(0, (⟨q0.l, qk, true⟩ : Rf).ob), (67, .arr 0 false 5 (nodV l2)), (68, .arr 0 false 1 (frK ((0, b) :: st3))), (69, .arr 0 false 1 (frA ((0, b) :: st3))), (77, .box 0 t.c)]⟩) 6 ?_ ?_
              · conv => whnf
                exact ⟨0, rfl, by omega, rfl⟩
              · rintro m s ⟨j, rfl, hj, rfl⟩
                conv => whnf
                refine branch_of (fun h => ?_) (fun h => ?_)
                · have h := of_decide_eq_true h
                  have hw : IntKind.i64.wrap (((3 + j : Nat) : Int) + 1) = ((3 + (j + 1) : Nat) : Int) := by rw [wr (by omega) (by omega)]; omega
                  have hsc : scanW 2 t 3 (j + 1) = if armsN ((3 + j : Nat) : Int) = 2 ∧ t.k = 1 ∧ t.t = wordT ((3 + j : Nat) : Int) then ((3 + j : Nat) : Int) else scanW 2 t 3 j := rfl
                  conv => whnf
                  refine call0 (qtwo_good ((3 + j : Nat) : Int)) ?_
                  by_cases ha : armsN ((3 + j : Nat) : Int) = 2
                  · rw [decide_eq_true ha]
                    conv => whnf
                    refine branch_of (fun hk => ?_) (fun hk => ?_)
                    · have hk := of_decide_eq_true hk
                      conv => whnf
                      refine call0 (qword_good (3 + j) (by omega)) ?_
                      conv => whnf
                      refine ⟨by kernel_rfl, ?_⟩
                      conv => whnf
                      refine branch_of (fun ht => ?_) (fun ht => ?_)
                      · have ht := of_decide_eq_true ht
                        conv => whnf
                        rw [hw]
                        exact ⟨6 - (j + 1), by omega, j + 1, rfl, by omega, by rw [hsc, if_pos ⟨ha, hk, ht⟩]⟩
                      · have ht := of_decide_eq_false ht
                        conv => whnf
                        rw [hw]
                        exact ⟨6 - (j + 1), by omega, j + 1, rfl, by omega, by rw [hsc, if_neg (fun x => ht x.2.2)]⟩
                    · have hk := of_decide_eq_false hk
                      conv => whnf
                      refine ⟨by kernel_rfl, ?_⟩
                      conv => whnf
                      rw [hw]
                      exact ⟨6 - (j + 1), by omega, j + 1, rfl, by omega, by rw [hsc, if_neg (fun x => hk x.2.1)]⟩
                  · rw [decide_eq_false ha]
                    conv => whnf
                    refine ⟨by kernel_rfl, ?_⟩
                    conv => whnf
                    rw [hw]
                    exact ⟨6 - (j + 1), by omega, j + 1, rfl, by omega, by rw [hsc, if_neg (fun x => ha x.1)]⟩
                · have h := of_decide_eq_false h
                  have hj7 : j = 6 := by omega
                  subst hj7
                  rw [← h1]
                  conv => whnf
          rintro s rfl
          conv => whnf
          have hup := words_up (q := ⟨q0.l, qk, true⟩) (L := twosL)
          have hof := twos_fr (q := ⟨q0.l, qk, true⟩)
          generalize Rf.wordsF twosL ⟨q0.l, qk, true⟩ = w2 at *
          refine branch_of (fun h => ?_) (fun h => ?_)
          · have h := of_decide_eq_true h
            rw [if_pos h] at hU
            conv => whnf
            rw [hU]
            refine ⟨[], rfl, ?_⟩
            conv => whnf
            exact ⟨⟨⟩, rfl, trivial⟩
          · have h := of_decide_eq_false h
            rw [if_neg h] at hU
            have hlt : qk < q0.l.length := hup h
            have hwk : IntKind.i64.wrap ((qk : Int) + 1) = ((qk + 1 : Nat) : Int) := by rw [wr (by omega) (by omega)]; rfl
            have hsK : (frK ((0, b) :: st3)).set ((st3.length : Nat) : Int).toNat [.int .i64 w2] = frK ((w2, (l2.length : Int) - 1) :: st3) := frK_set _ _ _ _
            have hsA : (frA ((0, b) :: st3)).set ((st3.length : Nat) : Int).toNat [.int .i64 ((l2.length : Int) - 1)] = frA ((w2, (l2.length : Int) - 1) :: st3) := frA_set _ _ _ _
            conv => whnf
            rw [hwk, hlK, hlA, hlN]
            refine ⟨⟨⟩, hbK, ?_⟩
            conv => whnf
            refine ⟨_, hgK, ?_⟩
            conv => whnf
            refine ⟨⟨⟩, hbA, ?_⟩
            conv => whnf
            refine ⟨_, hgA, ?_⟩
            conv => whnf
            refine ⟨f, by omega, f, ⟨q0.l, qk + 1, true⟩, (w2, (l2.length : Int) - 1) :: st3, l2, rfl, rfl, by dsimp only; omega, by dsimp only; omega, by dsimp only; rw [List.length_cons]; omega, ?_, hU, ?_⟩
            · intro p hp
              rcases List.mem_cons.1 hp with rfl | hp
              · exact hof.elim (fun x => .inr (.inr x)) (fun x => absurd x h)
              · exact hfr2 p (List.mem_cons_of_mem _ hp)
            · rw [← hsK, ← hsA]
end Go.PV
namespace Go.PV
open Go Go.Proofs
set_option maxRecDepth 100000
theorem Rf.pclo_b : ∀ (st : List Frm) (l : List Nod) (q : Rf), q.i ≤ q.l.length → l.length + st.length ≤ q.i → (∀ o ∈ l, nodB o) →
    (Rf.pclo st l q).2.2.l = q.l ∧ (Rf.pclo st l q).2.2.i ≤ q.l.length ∧ (Rf.pclo st l q).2.1.length + (Rf.pclo st l q).1.length ≤ (Rf.pclo st l q).2.2.i ∧ ∀ o ∈ (Rf.pclo st l q).2.1, nodB o
  | [], l, q, h1, h2, h3 => ⟨rfl, h1, h2, h3⟩
  | (k, a) :: st, l, q, h1, h2, h3 => by
    have hz : ∀ x y : Int, ∀ o ∈ l ++ [(⟨k, zeroA, x, y⟩ : Nod)], nodB o := fun x y o ho => by
      rcases List.mem_append.1 ho with ho | ho
      · exact h3 o ho
      · simp only [List.mem_singleton] at ho
        subst ho
        exact ⟨Nat.zero_le _, Nat.zero_le _, fun t ht => by cases ht⟩
    rw [List.length_cons] at h2
    unfold Rf.pclo
    split
    · exact ⟨rfl, h1, by rw [List.length_cons]; exact h2, h3⟩
    · split
      · have ht := Rf.take_u q 5 [41] h1
        have hl := Rf.take_l q 5 [41]
        split
        · have := Rf.pclo_b st (l ++ [⟨k, zeroA, a, (l.length : Int) - 1⟩]) (q.take 5 [41]) (by rw [hl.1]; exact ht) (by rw [List.length_append]; simp only [List.length_cons, List.length_nil]; omega) (hz _ _)
          rw [hl.1] at this
          exact this
        · exact ⟨hl.1, ht, by dsimp only; rw [List.length_cons]; omega, h3⟩
      · exact Rf.pclo_b st _ q h1 (by rw [List.length_append]; simp only [List.length_cons, List.length_nil]; omega) (hz _ _)
theorem Rf.forF_b {L : List Tok} (hb : tokB L) : ∀ (f : Nat) (q : Rf) (st : List Frm) (l : List Nod), q.l = L → q.i ≤ L.length → l.length + st.length ≤ q.i → (∀ o ∈ l, nodB o) →
    (Rf.forF f q st l).2.l = L ∧ (Rf.forF f q st l).2.i ≤ L.length ∧ (Rf.forF f q st l).1.length ≤ L.length ∧ ∀ o ∈ (Rf.forF f q st l).1, nodB o
  | 0, q, st, l, hl, h1, h2, h3 => ⟨hl, h1, Nat.zero_le _, fun o ho => by cases ho⟩
  | f + 1, q, st, l, hl, h1, h2, h3 => by
    have hup : Rf.wordsF onesL q ≠ 0 → q.i < q.l.length := words_up
    rw [hl] at hup
    unfold Rf.forF
    split
    · split
      · split
        · rename_i hc
          have := is_lt hc
          rw [hl] at this
          exact Rf.forF_b hb f q.step _ l hl this (by rw [List.length_cons, Rf.step_i]; omega) h3
        · have hal := (Rf.atom_l q).1
          have hau := Rf.atom_u q (by rw [hl]; exact h1)
          have haB := Rf.atom_B (q := q) (by rw [hl]; exact hb) (by rw [hl]; exact h1)
          split
          · rename_i hok
            have hap := Rf.atom_up hok
            have hp := Rf.pclo_b st (l ++ [⟨1, q.atom.1, 0, 0⟩]) q.atom.2 (by rw [hal]; exact hau.1) (by rw [List.length_append]; simp only [List.length_cons, List.length_nil]; omega) (fun o ho => by
              rcases List.mem_append.1 ho with ho | ho
              · exact h3 o ho
              · simp only [List.mem_singleton] at ho
                subst ho
                exact haB)
            rw [hal, hl] at hp
            generalize Rf.pclo st (l ++ [⟨1, q.atom.1, 0, 0⟩]) q.atom.2 = P at *
            obtain ⟨p1, p2, p3, p4⟩ := hp
            split
            · split
              · exact ⟨p1, p2, by dsimp only; omega, p4⟩
              · rename_i st' e
                rw [e, List.length_cons] at p3
                split
                · exact ⟨p1, p2, Nat.zero_le _, fun o ho => by cases ho⟩
                · rename_i hw
                  have := words_up hw
                  rw [p1] at this
                  exact Rf.forF_b hb f P.2.2.step _ P.2.1 p1 this (by rw [List.length_cons, Rf.step_i]; omega) p4
            · exact ⟨p1, p2, Nat.zero_le _, fun o ho => by cases ho⟩
          · exact ⟨by rw [hal]; exact hl, by rw [hl] at hau; exact hau.1, Nat.zero_le _, fun o ho => by cases ho⟩
      · rename_i hw
        exact Rf.forF_b hb f q.step _ l hl (hup hw) (by rw [List.length_cons, Rf.step_i]; omega) h3
    · exact ⟨hl, h1, Nat.zero_le _, fun o ho => by cases ho⟩
theorem Rf.formulaF_b {q : Rf} (hb : tokB q.l) (h : q.i ≤ q.l.length) : q.formulaF.2.l = q.l ∧ q.formulaF.2.i ≤ q.l.length ∧ q.formulaF.1.length ≤ q.l.length ∧ ∀ o ∈ q.formulaF.1, nodB o :=
  Rf.forF_b hb _ q [] [] rfl h (Nat.zero_le _) (fun o ho => by cases ho)
theorem qreadF_good (l : List Tok) (i : Nat) (hb : tokB l) (hs5 : l.length + 1 ≤ 1000000) (hi : i ≤ l.length) : Good Tryz.prog 40 [.sl 4 (toksV l), .int .i64 i] [] [.sl 5 (nodV (readF l i).1), .int .i64 (readF l i).2.1, .int .i64 (readF l i).2.2] [] := by
  rw [readF_ref hi]
  refine good_of hP Tryz.func40 (by kernel_rfl) (lv := [0, 1, 4, 5, 6, 7, 8, 13, 20, 25]) (js := []) ⟨rfl, rfl, rfl, rfl, rfl, rfl, _, rfl, ?_⟩
  have hl := hb.1
  conv => whnf
  refine call0 (in9_good i 0 (toksV l).length) ?_
  rw [List.length_map, decide_eq_true (by omega)]
  conv => whnf
  refine callN [(71, 0)] (qformula_good ⟨l, i, true⟩ hb hs5 hi) ?_ 
  conv => whnf
  refine ⟨⟨⟩, rfl, ?_⟩
  have hB := Rf.formulaF_b (q := ⟨l, i, true⟩) hb hi
  unfold refReadF
  dsimp only
  generalize (⟨l, i, true⟩ : Rf).formulaF = x at *
  obtain ⟨a, ⟨xl, xi, xo⟩⟩ := x
  dsimp only at hB
  conv => whnf
  cases xo with
  | false =>
    rw [if_neg (by simp)]
    conv => whnf
    refine ⟨by kernel_rfl, ?_⟩
    conv => whnf
    exact fin0 rfl trivial
  | true =>
  rw [if_pos rfl]
  conv => whnf
  refine call0 (qfml_good a (by omega) hB.2.2.2) ?_
  cases ha : fmlOk a with
  | false =>
    rw [if_neg (by simp)]
    conv => whnf
    exact fin0 rfl trivial
  | true =>
    rw [if_pos rfl]
    conv => whnf
    refine ⟨by kernel_rfl, ?_⟩
    conv => whnf
    exact fin0 rfl trivial
theorem qreadF_bad (l : List Tok) (i : Int) (hl : l.length ≤ 1000000) (hi : ¬ (0 ≤ i ∧ i ≤ l.length)) : Good Tryz.prog 40 [.sl 4 (toksV l), .int .i64 i] [] [.sl 5 [], .int .i64 0, .int .i64 1] [] := by
  refine good_of hP Tryz.func40 (by kernel_rfl) (lv := [0, 1, 4, 5, 6, 7, 8, 13, 20, 25]) (js := []) ⟨rfl, rfl, rfl, rfl, rfl, rfl, _, rfl, ?_⟩
  conv => whnf
  refine call0 (in9_good i 0 (toksV l).length) ?_
  rw [List.length_map, decide_eq_false (by omega)]
  conv => whnf
  exact fin0 rfl trivial
theorem qreadP_good (l : List Tok) (i : Nat) (hb : tokB l) (hs5 : l.length + 1 ≤ 1000000) (hi : i ≤ l.length) : Good Tryz.prog 41 [.sl 4 (toksV l), .int .i64 i] [] [.agg (readP l i).1.v, .int .i64 (readP l i).2.1, .int .i64 (readP l i).2.2] [] := by
  rw [readP_ref hi]
  refine good_of hP Tryz.func41 (by kernel_rfl) (lv := [0, 1, 4, 5, 6, 7, 8, 13, 23, 28, 34, 40]) (js := [23, 28]) ⟨rfl, rfl, rfl, rfl, rfl, rfl, _, rfl, ?_⟩
  have hl := hb.1
  conv => whnf
  refine call0 (in9_good i 0 (toksV l).length) ?_
  rw [List.length_map, decide_eq_true (by omega)]
  conv => whnf
  refine callN [(71, 0)] (qtake_good ⟨l, i, true⟩ 1 patW hb) ?_ 
  conv => whnf
  refine ⟨⟨⟩, rfl, ?_⟩
  unfold refReadP Rf.patF
  dsimp only
  have v1 := (⟨l, i, true⟩ : Rf).take_l 1 patW
  have u1 := (⟨l, i, true⟩ : Rf).take_u 1 patW hi
  have b1 : tokB ((⟨l, i, true⟩ : Rf).take 1 patW).l := by rw [v1.1]; exact hb
  generalize (⟨l, i, true⟩ : Rf).take 1 patW = q1 at *
  dsimp only at v1 u1
  conv => whnf
  refine callN [(71, 0)] (qname_good q1 b1) ?_ 
  conv => whnf
  refine ⟨⟨⟩, rfl, ?_⟩
  have v2 := (Rf.name_l q1).1
  have u2 := Rf.name_u q1 (by rw [v1.1]; exact u1)
  have n2 := Rf.name_b b1
  have b2 : tokB q1.name.2.l := by rw [v2]; exact b1
  generalize q1.name = y2 at *
  obtain ⟨nm, q2⟩ := y2
  dsimp only at v2 u2 n2 b2
  conv => whnf
  refine callN [(71, 0)] (qtake_good q2 5 [58] b2) ?_ 
  conv => whnf
  refine ⟨⟨⟩, rfl, ?_⟩
  have v3 := q2.take_l 5 [58]
  have u3 := q2.take_u 5 [58] (by rw [v2]; exact u2)
  have b3 : tokB (q2.take 5 [58]).l := by rw [v3.1]; exact b2
  generalize q2.take 5 [58] = q3 at *
  have l3 : q3.l = l := by rw [v3.1, v2, v1.1]
  have v4 : q3.trgF.2.l = l ∧ q3.trgF.2.i ≤ l.length ∧ (q3.trgF.1.n.length ≤ 1000000 ∧ q3.trgF.1.a.length ≤ 1000000 ∧ ∀ t ∈ q3.trgF.1.a, t.v.length ≤ 1000000 ∧ t.x.s.length ≤ 1000000) := by
    have u3' : q3.i ≤ q3.l.length := by rw [v3.1]; exact u3
    unfold Rf.trgF
    split
    · have h1 := Rf.atom_l q3
      have h2 := Rf.atom_u q3 u3'
      have h3 := Rf.atom_B b3 u3'
      exact ⟨h1.1.trans l3, by rw [← l3]; exact h2.1, h3⟩
    · exact ⟨l3, by rw [← l3]; exact u3', Nat.zero_le _, Nat.zero_le _, fun t ht => by cases ht⟩
  conv => whnf
  refine seq_of hP [0, 1, 4, 5, 6, 7, 8, 13, 23, 28, 34, 40] [23, 28] [1, 4, 7, 8] [68, 71, 72] [.dat 72 2 4] (fun st => st = ⟨[(1, .int .i64 i), (4, .ptr 68 0 0), (7, .ptr 71 0 0), (8, .ptr 72 0 0)], [(68, .box 0 [.str [], .str [], .nil, .nil]), (71, q3.trgF.2.ob), (72, .box 0 [.str nm, .str q3.trgF.1.n, .sl 4 (trmV q3.trgF.1.a), .nil])]⟩) ?_ ?_
  · unfold Rf.trgF
    obtain ⟨yl, yi, yo⟩ := q3
    conv => whnf
    cases yo with
    | true =>
      rw [if_pos rfl]
      conv => whnf
      refine callN [(71, 0)] (qatom_good ⟨yl, yi, true⟩ b3) ?_ 
      conv => whnf
      refine ⟨⟨⟩, rfl, ?_⟩
      conv => whnf
    | false =>
      rw [if_neg (by simp)]
      conv => whnf
      rfl
  rintro st rfl
  generalize q3.trgF = T at *
  obtain ⟨tr, q4⟩ := T
  dsimp only at v4
  have b4 : tokB q4.l := by rw [v4.1]; exact hb
  conv => whnf
  refine callN [(71, 0)] (qtake_good q4 5 [61, 62] b4) ?_ 
  conv => whnf
  refine ⟨⟨⟩, rfl, ?_⟩
  have v5 := q4.take_l 5 [61, 62]
  have u5 := q4.take_u 5 [61, 62] (by rw [v4.1]; exact v4.2.1)
  have b5 : tokB (q4.take 5 [61, 62]).l := by rw [v5.1]; exact b4
  generalize q4.take 5 [61, 62] = q5 at *
  have l5 : q5.l = l := by rw [v5.1, v4.1]
  have u5 : q5.i ≤ q5.l.length := by rw [v5.1]; exact u5
  have s5 : q5.l.length + 1 ≤ 1000000 := by rw [l5]; exact hs5
  have v6 : q5.bodF.2.l = l ∧ q5.bodF.2.i ≤ l.length ∧ q5.bodF.1.length ≤ l.length ∧ ∀ o ∈ q5.bodF.1, nodB o := by
    unfold Rf.bodF
    split
    · have := Rf.formulaF_b b5 u5
      rw [l5] at this
      exact this
    · exact ⟨l5, by rw [← l5]; exact u5, Nat.zero_le _, fun o ho => by cases ho⟩
  conv => whnf
  refine seq_of hP [0, 1, 4, 5, 6, 7, 8, 13, 23, 28, 34, 40] [23, 28] [1, 4, 7, 8] [68, 71, 72] [.dat 72 3 5] (fun st => st = ⟨[(1, .int .i64 i), (4, .ptr 68 0 0), (7, .ptr 71 0 0), (8, .ptr 72 0 0)], [(68, .box 0 [.str [], .str [], .nil, .nil]), (71, q5.bodF.2.ob), (72, .box 0 [.str nm, .str tr.n, .sl 4 (trmV tr.a), .sl 5 (nodV q5.bodF.1)])]⟩) ?_ ?_
  · unfold Rf.bodF
    obtain ⟨yl, yi, yo⟩ := q5
    conv => whnf
    cases yo with
    | true =>
      rw [if_pos rfl]
      conv => whnf
      refine callN [(71, 0)] (qformula_good ⟨yl, yi, true⟩ b5 s5 u5) ?_ 
      conv => whnf
      refine ⟨⟨⟩, rfl, ?_⟩
      conv => whnf
    | false =>
      rw [if_neg (by simp)]
      conv => whnf
      rfl
  rintro st rfl
  generalize q5.bodF = B at *
  obtain ⟨nd, q6⟩ := B
  dsimp only at v6
  have b6 : tokB q6.l := by rw [v6.1]; exact hb
  conv => whnf
  refine callN [(71, 0)] (qtake_good q6 5 [46] b6) ?_ 
  conv => whnf
  refine ⟨⟨⟩, rfl, ?_⟩
  generalize q6.take 5 [46] = q7 at *
  obtain ⟨xl, xi, xo⟩ := q7
  conv => whnf
  cases xo with
  | false =>
    rw [if_neg (by simp)]
    conv => whnf
    refine ⟨by kernel_rfl, ?_⟩
    conv => whnf
    exact fin0 rfl trivial
  | true =>
  rw [if_pos rfl]
  conv => whnf
  refine call0 (qpat_good ⟨nm, tr, nd⟩ n2 v4.2.2 (by dsimp only; omega) v6.2.2.2) ?_
  cases ha : patOk ⟨nm, tr, nd⟩ with
  | false =>
    rw [if_neg (by simp)]
    conv => whnf
    exact fin0 rfl trivial
  | true =>
    rw [if_pos rfl]
    conv => whnf
    refine ⟨by kernel_rfl, ?_⟩
    conv => whnf
    exact fin0 rfl trivial
theorem qreadP_bad (l : List Tok) (i : Int) (hl : l.length ≤ 1000000) (hi : ¬ (0 ≤ i ∧ i ≤ l.length)) : Good Tryz.prog 41 [.sl 4 (toksV l), .int .i64 i] [] [.agg zeroP.v, .int .i64 0, .int .i64 1] [] := by
  refine good_of hP Tryz.func41 (by kernel_rfl) (lv := [0, 1, 4, 5, 6, 7, 8, 13, 23, 28, 34, 40]) (js := []) ⟨rfl, rfl, rfl, rfl, rfl, rfl, _, rfl, ?_⟩
  conv => whnf
  refine call0 (in9_good i 0 (toksV l).length) ?_
  rw [List.length_map, decide_eq_false (by omega)]
  conv => whnf
  exact fin0 rfl trivial
end Go.PV
namespace Go.PV
open Go Go.Proofs
set_option maxRecDepth 100000
theorem twinAtom_good (f : Atm) (hl : f.a.length ≤ 1000000) : Good Tryz.prog 81 [.agg f.c] [] [.agg f.c] [] := by
  obtain ⟨n, l⟩ := f
  dsimp only at hl
  refine good_of hP Tryz.func81 (by kernel_rfl) (lv := [0, 1, 2, 3]) (js := []) ⟨rfl, rfl, rfl, rfl, rfl, rfl, _, rfl, ?_⟩
  conv => whnf
  refine ⟨⟨⟩, by rw [List.length_map]; dsimp only; omega, ?_⟩
  conv => whnf
  exact fin0 rfl trivial
end Go.PV
namespace Go.PV
open Go Go.Proofs
set_option maxRecDepth 100000
theorem readPB (l : List Tok) (i : Nat) (hi : i ≤ l.length) (hl : l.length + 1 ≤ 1000000) : (readP l i).1.n.length ≤ 1000000 ∧ ((readP l i).1.t.n.length ≤ 1000000 ∧ (readP l i).1.t.a.length ≤ 1000000 ∧ ∀ t ∈ (readP l i).1.t.a, t.v.length ≤ 1000000 ∧ t.x.s.length ≤ 1000000) ∧ (readP l i).1.l.length ≤ 1000000 ∧ ∀ o ∈ (readP l i).1.l, nodB o := by
  have hz : zeroP.n.length ≤ 1000000 ∧ (zeroP.t.n.length ≤ 1000000 ∧ zeroP.t.a.length ≤ 1000000 ∧ ∀ t ∈ zeroP.t.a, t.v.length ≤ 1000000 ∧ t.x.s.length ≤ 1000000) ∧ zeroP.l.length ≤ 1000000 ∧ ∀ o ∈ zeroP.l, nodB o := ⟨Nat.zero_le _, ⟨Nat.zero_le _, Nat.zero_le _, fun t ht => (by cases ht)⟩, Nat.zero_le _, fun o ho => (by cases ho)⟩
  have hv : Iv (rd0 l i) := ⟨hi, fun h => by cases h⟩
  have hr : (patR (rd0 l i)).1.n.length ≤ 1000000 ∧ ((patR (rd0 l i)).1.t.n.length ≤ 1000000 ∧ (patR (rd0 l i)).1.t.a.length ≤ 1000000 ∧ ∀ t ∈ (patR (rd0 l i)).1.t.a, t.v.length ≤ 1000000 ∧ t.x.s.length ≤ 1000000) ∧ (patR (rd0 l i)).1.l.length ≤ 1000000 ∧ ∀ o ∈ (patR (rd0 l i)).1.l, nodB o := by
    unfold patR
    dsimp only
    have e0 := Rd.want_l (rd0 l i) 1 patW
    have v0 := hv.want 1 patW
    have v1 := v0.name
    have e1 := Rd.name_l ((rd0 l i).want 1 patW)
    have s1 := Rd.name_s ((rd0 l i).want 1 patW)
    generalize ((rd0 l i).want 1 patW).name = v at *
    have e2 := Rd.want_l v.2 5 [58]
    have v2 := v1.want 5 [58]
    have v3 := v2.atom
    have e3 := Rd.atom_l (v.2.want 5 [58])
    have s3 := Rd.atom_s (v.2.want 5 [58])
    generalize (v.2.want 5 [58]).atom = u at *
    have e4 := Rd.want_l u.2 5 [61, 62]
    have v4 := v3.want 5 [61, 62]
    obtain ⟨f1, f2⟩ := Rd.formula_b v4
    have : (u.2.want 5 [61, 62]).l = l := by rw [e4.1, e3.1, e2.1, e1.1, e0.1]
    rw [this] at f1
    exact ⟨s1, s3, by omega, f2⟩
  unfold readP
  dsimp only
  split
  · split
    · exact hr
    · exact hz
  · exact hz
theorem readFB (l : List Tok) (i : Nat) (hi : i ≤ l.length) (hl : l.length + 1 ≤ 1000000) : (readF l i).1.length ≤ 1000000 ∧ ∀ o ∈ (readF l i).1, nodB o := by
  have hv : Iv (rd0 l i) := ⟨hi, fun h => by cases h⟩
  obtain ⟨f1, f2⟩ := Rd.formula_b hv
  have : (rd0 l i).l = l := rfl
  rw [this] at f1
  unfold readF
  dsimp only
  split
  · split
    · exact ⟨by dsimp only; omega, f2⟩
    · exact ⟨Nat.zero_le _, fun o ho => by cases ho⟩
  · exact ⟨Nat.zero_le _, fun o ho => by cases ho⟩
end Go.PV
namespace Go.PV
open Go Go.Proofs
set_option maxRecDepth 100000
theorem toksH_B {l : List Tok} (h : toksH l = false) : tokB l := by
  unfold toksH tokH at h
  simp at h
  obtain ⟨h1, h3⟩ := h
  exact ⟨by omega, fun t ht => by have := h3 t ht; omega⟩
end Go.PV
namespace Go.PV
open Go Go.Proofs
set_option maxRecDepth 100000
theorem twinN_own (l : List Nod) (hl : l.length ≤ 1000000) (hb : ∀ o ∈ l, nodB o) : Good Tryz.prog 28 [.sl 5 (nodV l)] [] [.own 0 0] [.arr 0 false 5 (nodV l)] := by
  refine good_of hP Tryz.func28 (by kernel_rfl) (lv := [0, 2, 3, 4, 5, 9]) (js := []) ⟨rfl, rfl, rfl, rfl, rfl, rfl, _, rfl, ?_⟩
  conv => whnf
  refine loop_of hP [0, 2, 3, 4, 5, 9] [] [0, 2, 3, 4] [67] [.slot 3 5] (fun m st => ∃ k : Nat, m = l.length - k ∧ k ≤ l.length ∧ st = ⟨[(0, .sl 5 (nodV l)), (2, .nil), (3, .own 67 0), (4, .int .i64 k)], [(67, .arr 0 false 5 (nodV (l.take k)))]⟩) l.length ?_ ?_
  · conv => whnf
    exact ⟨0, rfl, Nat.zero_le _, rfl⟩
  · rintro m st ⟨k, rfl, hk, rfl⟩
    conv => whnf
    refine branch_of (fun h => ?_) (fun h => ?_)
    · have h := of_decide_eq_true h
      rw [List.length_map] at h
      have hk' : k < l.length := by omega
      obtain ⟨b1, b2, b3⟩ := hb _ (List.getElem_mem hk')
      conv => whnf
      refine ⟨Nod.c l[k], idxM hk' rfl, ?_⟩
      conv => whnf
      refine call0 (twinAtom_good l[k].a b2) ?_
      conv => whnf
      refine ⟨⟨⟩, by dsimp only; simp only [List.length_map, List.length_take, List.length_cons, List.length_nil]; omega, ?_⟩
      conv => whnf
      refine ⟨l.length - (k + 1), by omega, k + 1, rfl, by omega, ?_⟩
      rw [← List.take_append_getElem hk', show nodV (l.take k ++ [l[k]]) = nodV (l.take k) ++ [l[k].c] from List.map_append, wr (by omega) (by omega)]
      rfl
    · have h := of_decide_eq_false h
      rw [List.length_map] at h
      rw [List.take_of_length_le (by omega)]
      conv => whnf
      refine ⟨[(67, 0)], rfl, ?_⟩
      conv => whnf
      exact ⟨⟨⟩, rfl, trivial⟩
theorem formulaExact_good (n : List Nod) (p : Pat) (l : List Tok) (at_ : Int) {q1 : Prop} (_ : n.length ≤ maxLen) {q2 : Nod → Prop} (_ : ∀ v ∈ n, q2 v) (_ : q1) (_ : l.length ≤ maxLen) {q3 : Tok → Prop} (_ : ∀ v ∈ l, q3 v) (_ : (Lit.int .i64 at_).wf = true) : Good Tryz.prog 9 [.sl 5 (nodV n), .agg p.v, .sl 4 (toksV l), .int .i64 at_] [] [.bool true] [] := by
  refine good_of hP Tryz.func9 (by kernel_rfl) (lv := [0, 1, 2, 3, 5, 8, 9, 10, 11, 12, 13, 14, 15, 16, 17, 18, 19, 20, 21, 22, 23, 24, 25, 26, 27, 28, 29, 39, 124, 126, 140, 146, 149]) (js := [126]) ⟨rfl, rfl, rfl, rfl, rfl, rfl, _, rfl, ?_⟩
  conv => whnf
  refine call0 (heavyN_good n) ?_
  cases ha : nodsH n with
  | true =>
    conv => whnf
    exact fin0 rfl trivial
  | false =>
  obtain ⟨n1, n2⟩ := nodsH_B ha
  have n1 : n.length ≤ 1000000 := by omega
  conv => whnf
  refine call0 (heavyP_good p) ?_
  cases hb : patH p with
  | true =>
    conv => whnf
    exact fin0 rfl trivial
  | false =>
  obtain ⟨p1, p2, p3, p4⟩ := patH_B hb
  conv => whnf
  refine call0 (heavyT_good l) ?_
  cases ht : toksH l with
  | true =>
    conv => whnf
    exact fin0 rfl trivial
  | false =>
  have htb := toksH_B ht
  have htl : l.length + 1 ≤ 1000000 := by
    unfold toksH tokH at ht
    simp at ht
    omega
  clear ha hb ht
  have hpe : patOk p = true → patE p = (if 20000 < (patT p).length then 2 else 0) ∧ patX p = (if 20000 < (patT p).length then [] else patT p) := fun hk => by
    unfold patX patE
    rw [hk, if_pos rfl]
    split
    · exact ⟨rfl, rfl⟩
    · exact ⟨rfl, rfl⟩
  have hpn : patOk p = false → patE p = 17 ∧ patX p = [] := fun hk => by
    unfold patX patE
    rw [hk]
    exact ⟨rfl, rfl⟩
  have hfe : fmlOk n = true → fmlE n = (if 20000 < (fmlT n).length then 2 else 0) ∧ fmlX n = (if 20000 < (fmlT n).length then [] else fmlT n) := fun hk => by
    unfold fmlX fmlE
    rw [hk, if_pos rfl]
    split
    · exact ⟨rfl, rfl⟩
    · exact ⟨rfl, rfl⟩
  have hfn : fmlOk n = false → fmlE n = 17 ∧ fmlX n = [] := fun hk => by
    unfold fmlX fmlE
    rw [hk]
    exact ⟨rfl, rfl⟩
  have hct := ftext_good n n1 n2
  have hcp := fpattern_good p p1 p2 p3 p4
  have hcf := ffrom_good n at_ n1 n2
  have hcq := qfrom_good n at_ n1 n2
  generalize fmlE n = fe at *
  generalize fmlX n = fx at *
  generalize patE p = pe at *
  generalize patX p = px at *
  generalize fromN n at_ = fr at *
  obtain ⟨z, zi, ze, hz1, hz2, hz3, hz4⟩ : ∃ (z : List Nod) (zi ze : Int), z.length ≤ 1000000 ∧ (∀ o ∈ z, nodB o) ∧ Good Tryz.prog 38 [.sl 4 (toksV l), .int .i64 at_] [] [.sl 5 (nodV z), .int .i64 zi, .int .i64 ze] [] ∧ Good Tryz.prog 40 [.sl 4 (toksV l), .int .i64 at_] [] [.sl 5 (nodV z), .int .i64 zi, .int .i64 ze] [] := by
    by_cases hi : 0 ≤ at_ ∧ at_ ≤ l.length
    · obtain ⟨i, rfl⟩ : ∃ i : Nat, at_ = i := ⟨at_.toNat, by omega⟩
      obtain ⟨b1, b2⟩ := readFB l i (by omega) htl
      exact ⟨_, _, _, b1, b2, readF_good l i htb htl (by omega), qreadF_good l i htb htl (by omega)⟩
    · exact ⟨[], 0, 1, Nat.zero_le _, fun o ho => (by cases ho), readF_bad l at_ htb.1 hi, qreadF_bad l at_ htb.1 hi⟩
  obtain ⟨y, yi, ye, hy1, hy2, hy3, hy4, hy5⟩ : ∃ (y : Pat) (yi ye : Int), y.t.a.length ≤ 1000000 ∧ y.l.length ≤ 1000000 ∧ (∀ o ∈ y.l, nodB o) ∧ Good Tryz.prog 39 [.sl 4 (toksV l), .int .i64 at_] [] [.agg y.v, .int .i64 yi, .int .i64 ye] [] ∧ Good Tryz.prog 41 [.sl 4 (toksV l), .int .i64 at_] [] [.agg y.v, .int .i64 yi, .int .i64 ye] [] := by
    by_cases hi : 0 ≤ at_ ∧ at_ ≤ l.length
    · obtain ⟨i, rfl⟩ : ∃ i : Nat, at_ = i := ⟨at_.toNat, by omega⟩
      obtain ⟨b1, b2, b3, b4⟩ := readPB l i (by omega) htl
      exact ⟨_, _, _, b2.2.1, b3, b4, readP_good l i htb htl (by omega), qreadP_good l i htb htl (by omega)⟩
    · exact ⟨zeroP, 0, 1, Nat.zero_le _, Nat.zero_le _, fun o ho => (by cases ho), readP_bad l at_ htb.1 hi, qreadP_bad l at_ htb.1 hi⟩
  conv => whnf
  refine call0 (twinN_own n n1 n2) ?_
  conv => whnf
  refine call0 (hct) ?_
  conv => whnf
  refine call0 (hcp) ?_
  conv => whnf
  refine call0 (hz3) ?_
  conv => whnf
  refine call0 (hy4) ?_
  conv => whnf
  refine call0 (hz4) ?_
  conv => whnf
  refine call0 (hy5) ?_
  conv => whnf
  refine call0 (keepNodes_good z z hz1 hz2) ?_
  rw [decide_eq_true rfl]
  conv => whnf
  refine branch_of (fun h => ?_) (fun h => ?_)
  · simp at h
  conv => whnf
  refine branch_of (fun h => ?_) (fun h => ?_)
  · simp at h
  conv => whnf
  refine call0 (keepPat_good y y hy1 hy2 hy3) ?_
  rw [decide_eq_true rfl]
  conv => whnf
  refine branch_of (fun h => ?_) (fun h => ?_)
  · simp at h
  conv => whnf
  refine branch_of (fun h => ?_) (fun h => ?_)
  · simp at h
  conv => whnf
  refine call0 (hcf) ?_
  conv => whnf
  refine call0 (hcq) ?_
  conv => whnf
  refine branch_of (fun h => ?_) (fun h => ?_)
  · simp at h
  conv => whnf
  refine call0 (keepNodes_good n n n1 n2) ?_
  rw [decide_eq_true rfl]
  conv => whnf
  refine seq_of hP [0, 1, 2, 3, 5, 8, 9, 10, 11, 12, 13, 14, 15, 16, 17, 18, 19, 20, 21, 22, 23, 24, 25, 26, 27, 28, 29, 39, 124, 126, 140, 146, 149] [126] [0, 9, 10, 11] [3648] [] (fun st => st = ⟨[(0, .sl 5 (nodV n)), (9, .own 3648 0), (10, .str fx), (11, .int .i64 fe)], [(3648, .arr 0 true 5 (nodV n))]⟩) ?_ ?_
  · conv => whnf
    refine call0 (qpat_good p p1 p2 p3 p4) ?_
    cases hk : patOk p with
    | true =>
      obtain ⟨e1, e2⟩ := hpe hk
      have hlen := (patT_len hk).1
      subst e1
      subst e2
      conv => whnf
      refine call0 (qpatT_good p hk p3 p4) ?_
      conv => whnf
      refine call0 (qfit_good (patT p) (by omega)) ?_
      generalize (if 20000 < (patT p).length then (2 : Int) else 0) = u1 at *
      generalize (if 20000 < (patT p).length then ([] : Bs) else patT p) = u2 at *
      conv => whnf
      refine branch_of (fun h => ?_) (fun h => ?_)
      · simp at h
      conv => whnf
      refine branch_of (fun h => ?_) (fun h => ?_)
      · simp at h
      conv => whnf
    | false =>
      obtain ⟨e1, e2⟩ := hpn hk
      subst e1
      subst e2
      conv => whnf
  rintro st rfl
  conv => whnf
  refine call0 (qfml_good n n1 n2) ?_
  have hcc := fcheck_good n n1 n2
  cases hk : fmlOk n with
  | false =>
    rw [hk, if_neg (by simp)] at hcc
    obtain ⟨e1, e2⟩ := hfn hk
    subst e1
    subst e2
    conv => whnf
    refine call0 (hcc) ?_
    conv => whnf
    refine call0 (wakes12_good) ?_
    conv => whnf
    exact fin0 rfl trivial
  | true =>
    rw [hk, if_pos rfl] at hcc
    obtain ⟨e1, e2⟩ := hfe hk
    have hlen := fmlT_len hk
    subst e1
    subst e2
    conv => whnf
    refine call0 (qftx_good n n1 n2 hk) ?_
    conv => whnf
    refine call0 (qfit_good (fmlT n) (by omega)) ?_
    generalize (if 20000 < (fmlT n).length then (2 : Int) else 0) = u1 at *
    generalize (if 20000 < (fmlT n).length then ([] : Bs) else fmlT n) = u2 at *
    conv => whnf
    refine call0 (hcc) ?_
    conv => whnf
    refine branch_of (fun h => ?_) (fun h => ?_)
    · conv => whnf
      refine branch_of (fun h2 => ?_) (fun h2 => ?_)
      · conv => whnf
        refine call0 (wakes12_good) ?_
        conv => whnf
        exact fin0 rfl trivial
      · exact absurd rfl (of_decide_eq_false h2)
    · exact absurd rfl (of_decide_eq_false h)
end Go.PV
namespace Go.PV
open Go Go.RowKit
/-! an argument that can be read as data, as plain data -/
def cel (w : World) (b o : Nat) (u : Value) : Prop := w.cell? ⟨b, o, none⟩ = some u
def CellsW (w : World) (l : List V) (cs : List Value) : Prop := cs.length = l.length ∧ ∀ (j : Nat) (p : V), l[j]? = some p → ∃ u, cs[j]? = some u ∧ Sh (cel w) p u
theorem CellsW.one {w : World} {p : V} {u : Value} (h : Sh (cel w) p u) : CellsW w [p] [u] := ⟨rfl, fun j q hj => by
  cases j with
  | zero => simp at hj; subst hj; exact ⟨u, rfl, h⟩
  | succ j => simp at hj⟩
theorem CellsW.append {w : World} {l m : List V} {cs ds : List Value} (h : CellsW w l cs) (k : CellsW w m ds) : CellsW w (l ++ m) (cs ++ ds) := ⟨by simp [h.1, k.1], fun j p hj => by
  rcases Nat.lt_or_ge j l.length with hl | hl
  · rw [List.getElem?_append_left hl] at hj
    rw [List.getElem?_append_left (by rw [h.1]; exact hl)]; exact h.2 j p hj
  · rw [List.getElem?_append_right hl] at hj
    rw [List.getElem?_append_right (by rw [h.1]; exact hl), h.1]; exact k.2 _ p hj⟩
structure OpensV {α : Type} (n : Nat) (c : α → List V) (P : Program) (t : TypeId) (ok : α → Prop) : Prop where
  cells : P.cellsOf t = n
  len : ∀ v, (c v).length = n
  opens : ∀ {H : Type} {enc : TypeId × Value → H} {w : World} {base : Nat} {spare : Nat → Bool} {held : Bool} {fuel : Nat} {cs : List Value} {x : DataW H × List MemPlace},
    DataW.trod enc P w base spare held fuel t cs = some x → ∃ v, CellsW w (c v) cs ∧ ok v
section
variable {P : Program} {t : TypeId}
theorem OpensV.mono {α : Type} {n : Nat} {c : α → List V} {ok ok' : α → Prop} (h : OpensV n c P t ok) (hm : ∀ v, ok v → ok' v) : OpensV n c P t ok' :=
  ⟨h.cells, h.len, fun hx => by obtain ⟨v, h1, h2⟩ := h.opens hx; exact ⟨v, h1, hm v h2⟩⟩
theorem OpensV.int {k : IntKind} (hu : P.underlying t = some (.int k)) (hc : P.cellsOf t = 1) : OpensV 1 (fun n => [.int k n]) P t (fun n => (Lit.int k n).wf = true) :=
  ⟨hc, fun _ => rfl, fun hx => by obtain ⟨m, rfl, rfl, hw⟩ := DataW.trod_int hu hx; exact ⟨m, .one (.int _ _), hw⟩⟩
theorem OpensV.string (hu : P.underlying t = some .string) (hc : P.cellsOf t = 1) : OpensV 1 (fun s : List UInt8 => [.str s]) P t (fun s => s.length ≤ maxLen) :=
  ⟨hc, fun _ => rfl, fun hx => by obtain ⟨s, rfl, _, hw⟩ := DataW.trod_string hu hx; exact ⟨s.data.toList, .one (.str _), hw⟩⟩
theorem OpensV.bool (hu : P.underlying t = some .bool) (hc : P.cellsOf t = 1) : OpensV 1 (fun b => [.bool b]) P t (fun _ => True) :=
  ⟨hc, fun _ => rfl, fun hx => by obtain ⟨b, rfl, _⟩ := DataW.trod_bool hu hx; exact ⟨b, .one (.bool _), trivial⟩⟩
theorem OpensV.iso {α β : Type} {n : Nat} {c : α → List V} {ok : α → Prop} {f : β → α} (g : α → β) (hg : ∀ a, f (g a) = a) (h : OpensV n c P t ok) : OpensV n (fun b => c (f b)) P t (fun b => ok (f b)) :=
  ⟨h.cells, fun b => h.len (f b), fun hx => by
    obtain ⟨v, h1, h2⟩ := h.opens hx
    exact ⟨g v, by rw [hg]; exact h1, by rw [hg]; exact h2⟩⟩
/-- fields that lie side by side from off on -/
structure OpensVs {α : Type} (n : Nat) (c : α → List V) (P : Program) (fs : List Field) (off : Nat) (ok : α → Prop) : Prop where
  len : ∀ v, (c v).length = n
  opens : ∀ {H : Type} {enc : TypeId × Value → H} {w : World} {base : Nat} {spare : Nat → Bool} {held : Bool} {fuel : Nat} {cs : List Value},
    off + n = cs.length → (∀ (i : Nat) (f : Field), fs[i]? = some f → ∃ x, DataW.trod enc P w base spare held fuel f.type ((cs.drop f.offset).take (P.cellsOf f.type)) = some x) → ∃ v, CellsW w (c v) (cs.drop off) ∧ ok v
theorem OpensVs.one {α : Type} {n : Nat} {c : α → List V} {f : Field} {off : Nat} {ok : α → Prop} (ho : f.offset = off) (h : OpensV n c P f.type ok) : OpensVs n c P [f] off ok := by
  refine ⟨h.len, ?_⟩
  intro H enc w base spare held fuel cs hl hx
  obtain ⟨x, hx⟩ := hx 0 f rfl
  rw [ho, h.cells, List.take_of_length_le (by simp; omega)] at hx
  exact h.opens hx
theorem OpensVs.cons {α β : Type} {n m : Nat} {c : α → List V} {d : β → List V} {f : Field} {fs : List Field} {off : Nat} {ok : α → Prop} {ok' : β → Prop} (ho : f.offset = off) (h : OpensV n c P f.type ok) (h' : OpensVs m d P fs (off + n) ok') :
    OpensVs (n + m) (fun v : α × β => c v.1 ++ d v.2) P (f :: fs) off (fun v => ok v.1 ∧ ok' v.2) := by
  refine ⟨fun v => by rw [List.length_append, h.len, h'.len], ?_⟩
  intro H enc w base spare held fuel cs hl hx
  obtain ⟨x, hx0⟩ := hx 0 f rfl
  rw [ho, h.cells] at hx0
  obtain ⟨v, hv, ov⟩ := h.opens hx0
  obtain ⟨u, hu, ou⟩ := h'.opens (cs := cs) (by omega) (fun i g hg => hx (i + 1) g hg)
  refine ⟨(v, u), ?_, ov, ou⟩
  have := hv.append hu
  rwa [← List.drop_drop, List.take_append_drop] at this
theorem OpensV.struct {α : Type} {n : Nat} {c : α → List V} {fs : Array Field} {ok : α → Prop} (hu : P.underlying t = some (.struct fs)) (hc : P.cellsOf t = n) (h : OpensVs n c P fs.toList 0 ok) : OpensV n c P t ok := by
  refine ⟨hc, h.len, ?_⟩
  intro H enc w base spare held fuel cs x hx
  obtain ⟨xs, n, rfl, _, hl, hxl, hf⟩ := DataW.trod_struct hu hx
  have := h.opens (cs := cs) (enc := enc) (w := w) (base := base) (spare := spare) (held := held) (fuel := n) (by omega) (by
    intro i f hi
    have hi' : fs[i]? = some f := by simpa using hi
    have hlt : i < xs.length := by
      rw [hxl]
      exact (Array.getElem?_eq_some_iff.1 hi').1
    exact ⟨xs[i], by rw [hf i f hi', List.getElem?_eq_getElem hlt]⟩)
  simpa using this
theorem list_of {α : Type} {Q : Nat → α → Prop} : ∀ n : Nat, (∀ i, i < n → ∃ v, Q i v) → ∃ l : List α, l.length = n ∧ ∀ i v, l[i]? = some v → Q i v := by
  intro n
  induction n with
  | zero => intro _; exact ⟨[], rfl, fun i v h => by simp at h⟩
  | succ n ih =>
    intro h
    obtain ⟨l, hl, hq⟩ := ih (fun i hi => h i (by omega))
    obtain ⟨v, hv⟩ := h n (by omega)
    refine ⟨l ++ [v], by simp [hl], ?_⟩
    intro i u hu
    by_cases hi : i < l.length
    · rw [List.getElem?_append_left hi] at hu
      exact hq i u hu
    · rw [List.getElem?_append_right (by omega)] at hu
      have h0 : i - l.length = 0 := by
        by_cases h0 : i - l.length = 0
        · exact h0
        · rw [List.getElem?_eq_none (by simp; omega)] at hu; cases hu
      rw [h0] at hu
      simp at hu
      subst hu
      have : i = n := by omega
      subst this
      exact hv
theorem cell_spot {w : World} {a : Addr} {u : Value} (h : w.cell? a = some u) : a.spot = none := by
  unfold World.cell? at h
  split at h
  · cases hs : a.spot with
    | none => rfl
    | some s => rw [hs] at h; simp at h
  · cases h
/-- a slice that is read as data -/
theorem OpensV.row {α : Type} {n : Nat} {c : α → List V} {e : TypeId} {ok : α → Prop} (h : OpensV n c P e ok) (h0 : 0 < n) (hu : P.underlying t = some (.slice e))
    {H : Type} {enc : TypeId × Value → H} {w : World} {base : Nat} {spare : Nat → Bool} {held : Bool} {fuel : Nat} {cs : List Value} {x : DataW H × List MemPlace}
    (hx : DataW.trod enc P w base spare held fuel t cs = some x) : ∃ (l : List α) (A : Option Addr) (cap : Nat), cs = [.slice A l.length cap] ∧ Sh (cel w) (.sl n (l.map c)) (.slice A l.length cap) ∧ l.length ≤ cap ∧ cap ≤ maxLen ∧ ∀ v ∈ l, ok v := by
  rcases DataW.trod_slice hu hx with ⟨hcs, _⟩ | ⟨a, len, cap, elems, rest, m, rfl, hcs, _, hb, hl, hm, hlen, hel, _⟩
  · exact ⟨[], none, 0, hcs, .sl0 _ _ _, Nat.le_refl _, by unfold maxLen; omega, fun v hv => by simp at hv⟩
  · obtain ⟨l, hll, hq⟩ := list_of (Q := fun i v => ∃ cs, w.cells? base (a.add (i * P.cellsOf e)) (P.cellsOf e) = some cs ∧ CellsW w (c v) cs ∧ ok v) len (by
      intro i hi
      have h1 := hel i hi
      rw [List.getElem?_eq_getElem (by omega), Option.bind_eq_some_iff] at h1
      obtain ⟨cs, h2, h3⟩ := h1
      obtain ⟨v, h4, h5⟩ := h.opens h3
      exact ⟨v, cs, h2, h4, h5⟩)
    have hok : ∀ v ∈ l, ok v := by
      intro v hv
      obtain ⟨i, hi⟩ := List.getElem?_of_mem hv
      obtain ⟨_, _, _, h5⟩ := hq i v hi
      exact h5
    refine ⟨l, some a, cap, by rw [hll]; exact hcs, ?_, by omega, hm, hok⟩
    by_cases hz : l = []
    · subst hz; exact .sl0 _ _ _
    have at_ : ∀ (i : Nat) (v : α) (j : Nat) (p : V), l[i]? = some v → (c v)[j]? = some p → ∃ u, w.cell? ((a.add (i * n)).add j) = some u ∧ Sh (cel w) p u := by
      intro i v j p hi hj
      obtain ⟨cs, h2, h4, _⟩ := hq i v hi
      obtain ⟨_, h6, h7⟩ := World.cells?_some h2
      obtain ⟨u, h8, h9⟩ := h4.2 j p hj
      have hlt : j < P.cellsOf e := by rw [← h6]; exact (List.getElem?_eq_some_iff.1 h8).1
      have h10 := h7 j hlt
      rw [h.cells, h8] at h10
      exact ⟨u, h10, h9⟩
    have hsp : a.spot = none := by
      obtain ⟨v, r, rfl⟩ := List.exists_cons_of_ne_nil hz
      have h1 : 0 < (c v).length := by rw [h.len]; exact h0
      obtain ⟨u, h2, _⟩ := at_ 0 v 0 _ rfl (List.getElem?_eq_getElem h1)
      have := cell_spot h2
      simpa [Addr.add] using this
    obtain ⟨b, off, sp⟩ := a
    simp only at hsp
    subst hsp
    have hadd : ∀ i j : Nat, ((⟨b, off, none⟩ : Addr).add (i * n)).add j = ⟨b, off + i * n + j, none⟩ := fun i j => by
      rw [Addr.add_none, Addr.add_none]
    have hml : (l.map c).length = l.length := List.length_map _
    rw [← hml]
    refine .sl n (l.map c) b off cap (fun i j => (w.cell? ⟨b, off + i * n + j, none⟩).getD undef) h0 (fun i x hx => ?_) (by rw [hml]; omega) (fun i x j p hx hj => ?_) (fun i x j p hx hj => ?_)
    · rw [List.getElem?_map, Option.map_eq_some_iff] at hx
      obtain ⟨v, _, rfl⟩ := hx; exact h.len v
    · rw [List.getElem?_map, Option.map_eq_some_iff] at hx
      obtain ⟨v, hi, rfl⟩ := hx
      obtain ⟨u, h2, _⟩ := at_ i v j p hi hj
      rw [hadd] at h2
      show w.cell? _ = _
      rw [h2]; rfl
    · rw [List.getElem?_map, Option.map_eq_some_iff] at hx
      obtain ⟨v, hi, rfl⟩ := hx
      obtain ⟨u, h2, h3⟩ := at_ i v j p hi hj
      rw [hadd] at h2
      rw [h2]; exact h3
theorem OpensV.slice {α : Type} {n : Nat} {c : α → List V} {e : TypeId} {ok : α → Prop} (h : OpensV n c P e ok) (h0 : 0 < n) (hu : P.underlying t = some (.slice e)) (hc : P.cellsOf t = 1) : OpensV 1 (fun l : List α => [.sl n (l.map c)]) P t (fun l => l.length ≤ maxLen ∧ ∀ v ∈ l, ok v) :=
  ⟨hc, fun _ => rfl, fun hx => by
    obtain ⟨l, A, cap, rfl, h2, h3, h4, h5⟩ := h.row h0 hu hx
    exact ⟨l, .one h2, Nat.le_trans h3 h4, h5⟩⟩
/-- an argument that is a slice -/
theorem OpensV.arg {α : Type} {n : Nat} {c : α → List V} {e : TypeId} {ok : α → Prop} (h : OpensV n c P e ok) (h0 : 0 < n) (hu : P.underlying t = some (.slice e))
    {H : Type} {enc : TypeId × Value → H} {w : World} {r : Reach} {base b0 : Nat} {spare : Nat → Bool} {held : Bool} {v : Value} {x : DataW H} {ps : List MemPlace}
    (hv : Value.okWide P w r b0 t v) (hx : DataW.Trod enc P w base spare held t v x ps) : ∃ l : List α, Sh (cel w) (.sl n (l.map c)) v ∧ l.length ≤ maxLen ∧ ∀ v ∈ l, ok v := by
  obtain ⟨a, len, cap, rfl⟩ := Go.WideShapes.okWide_slice hu hv
  obtain ⟨fuel, hf⟩ := hx
  have hf' : DataW.trod enc P w base spare held fuel t [.slice a len cap] = some (x, ps) := hf
  obtain ⟨l, A, cp, h1, h2, h3, h4, h5⟩ := h.row h0 hu hf'
  cases h1
  exact ⟨l, h2, Nat.le_trans h3 h4, h5⟩
/-- an argument that is a struct -/
theorem OpensV.agg {α : Type} {n : Nat} {c : α → List V} {ok : α → Prop} (h : OpensV n c P t ok) {fs : Array Field} (hu : P.underlying t = some (.struct fs))
    {H : Type} {enc : TypeId × Value → H} {w : World} {r : Reach} {base b0 : Nat} {spare : Nat → Bool} {held : Bool} {v : Value} {x : DataW H} {ps : List MemPlace}
    (hv : Value.okWide P w r b0 t v) (hx : DataW.Trod enc P w base spare held t v x ps) : ∃ u cs, v = .agg ⟨cs⟩ ∧ CellsW w (c u) cs ∧ ok u := by
  obtain ⟨cs, rfl, _⟩ := Go.WideShapes.okWide_struct hu hv
  obtain ⟨fuel, hf⟩ := hx
  obtain ⟨u, h1, h2⟩ := h.opens hf
  exact ⟨u, cs.toList, rfl, h1, h2⟩
end
/-- what nothing owns -/
def G0 : Gh := { own := fun _ => ⟨none, none⟩, blk := fun _ => 0, cap := fun _ => 0, isnil := fun _ => false }
theorem sh0 {w : World} {p : V} {v : Value} (h : Sh (cel w) p v) : Sh (stab G0 w) p v := h.mono fun b o c hc => ⟨fun l hl => (by cases hl), hc⟩
theorem ra0 {w : World} {O : Tb} {p : V} {v : Value} (h : Sh (cel w) p v) : RA G0 w O p v := .cell _ _ (.sh _ _ (sh0 h))
theorem raAgg {w : World} {O : Tb} {l : List V} {cs : List Value} (h : CellsW w l cs) : RA G0 w O (.agg l) (.agg ⟨cs⟩) :=
  .agg _ _ ⟨by simpa using h.1, fun j p hj => by obtain ⟨u, h1, h2⟩ := h.2 j p hj; exact ⟨u, by simpa using h1, .sh _ _ (sh0 h2)⟩⟩
/-- pair by pair -/
inductive Each (R : V → Value → Prop) : List V → List Value → Prop
  | nil : Each R [] []
  | cons {p v ps vs} (h : R p v) (k : Each R ps vs) : Each R (p :: ps) (v :: vs)
theorem cellsOf {R : V → Value → Prop} : ∀ {ps : List V} {vs : List Value}, Each R ps vs → Cells R ps ⟨vs⟩
  | [], [], _ => ⟨rfl, fun j p hj => by simp at hj⟩
  | p :: ps, v :: vs, .cons h1 h2 => by
    have ih := cellsOf h2
    refine ⟨by have := ih.1; simp at this ⊢; omega, fun j q hj => ?_⟩
    cases j with
    | zero => simp at hj; subst hj; exact ⟨v, rfl, h1⟩
    | succ j => obtain ⟨c, h3, h4⟩ := ih.2 j q (by simpa using hj); exact ⟨c, by simpa using h3, h4⟩
/-- a law's call -/
theorem law_calls {P : Program} [Env P] {f : FuncId} {args : List V} {vs : List Value} {w : World} (h : Good P f args [] [.bool true] []) (hc : Each (RA G0 w (tbl [])) args vs) (hn : Env.ng P ≤ w.heap.size) (hz : Env.Z P w) :
    Calls P f ⟨vs⟩ w fun e w' => e = .returned (.bool true) ∧ Below w.heap.size w w' :=
  (h.run ⟨vs⟩ w G0 (cellsOf hc) (fun k o hk => by simp at hk) (fun k hk => ⟨by omega, rfl⟩) hz).mono fun e w' hh => by
    obtain ⟨rv, G', h1, h2, _, h3⟩ := hh
    refine ⟨?_, ⟨h3.sys, h3.tape, h3.output, h3.size, fun k hk => (h3.im k hk rfl).2⟩⟩
    rw [h1]
    cases (show RA G' w' (tbl []) (.bool true) rv from h2).bool_eq
    rfl
end Go.PV
namespace Go.PV
open Go Go.RowKit Go.Proofs
/-! what is known of arguments of these types -/
def ok3 : Int → Prop := fun n : Int => (Lit.int .i64 n).wf = true
abbrev c3 : Int → List V := fun n => [.int .i64 n]
theorem o3 : OpensV 1 c3 Tryz.prog 3 ok3 := OpensV.int Tryz.underlying3 (by kernel_rfl)
def ok9 : List UInt8 → Prop := fun s : List UInt8 => s.length ≤ maxLen
abbrev c9 : List UInt8 → List V := fun s => [.str s]
theorem o9 : OpensV 1 c9 Tryz.prog 9 ok9 := OpensV.string Tryz.underlying9 (by kernel_rfl)
theorem t129 : OpensV 3 (fun v : Int × Int × List UInt8 => c3 v.1 ++ (c3 v.2.1 ++ (c9 v.2.2))) Tryz.prog 129 (fun v => ok3 v.1 ∧ ok3 v.2.1 ∧ ok9 v.2.2) := by
  refine OpensV.struct Tryz.underlying129 (by kernel_rfl) ?_
  refine OpensVs.cons (n := 1) (m := 2) (c := c3) (d := fun w : Int × List UInt8 => c3 w.1 ++ (c9 w.2)) (ok := ok3) (ok' := fun w : Int × List UInt8 => ok3 w.1 ∧ ok9 w.2) rfl o3 ?_
  refine OpensVs.cons (n := 1) (m := 1) (c := c3) (d := fun w : List UInt8 => c9 w) (ok := ok3) (ok' := fun w : List UInt8 => ok9 w) rfl o3 ?_
  exact OpensVs.one (c := c9) (ok := ok9) rfl o9
def ok129 : Val → Prop := fun x => let v := ((fun v => (v.k, v.n, v.s) : Val → (Int × Int × List UInt8))) x; ok3 v.1 ∧ ok3 v.2.1 ∧ ok9 v.2.2
abbrev c129 : Val → List V := fun x => let v := ((fun v => (v.k, v.n, v.s) : Val → (Int × Int × List UInt8))) x; c3 v.1 ++ (c3 v.2.1 ++ (c9 v.2.2))
theorem o129 : OpensV 3 c129 Tryz.prog 129 ok129 := OpensV.iso (f := (fun v => (v.k, v.n, v.s) : Val → (Int × Int × List UInt8))) ((fun a => ⟨a.1, a.2.1, a.2.2⟩ : (Int × Int × List UInt8) → Val)) (fun _ => rfl) t129
theorem t131 : OpensV 4 (fun v : List UInt8 × Val => c9 v.1 ++ (c129 v.2)) Tryz.prog 131 (fun v => ok9 v.1 ∧ ok129 v.2) := by
  refine OpensV.struct Tryz.underlying131 (by kernel_rfl) ?_
  refine OpensVs.cons (n := 1) (m := 3) (c := c9) (d := fun w : Val => c129 w) (ok := ok9) (ok' := fun w : Val => ok129 w) rfl o9 ?_
  exact OpensVs.one (c := c129) (ok := ok129) rfl o129
def ok131 : Trm → Prop := fun x => let v := ((fun v => (v.v, v.x) : Trm → (List UInt8 × Val))) x; ok9 v.1 ∧ ok129 v.2
abbrev c131 : Trm → List V := fun x => let v := ((fun v => (v.v, v.x) : Trm → (List UInt8 × Val))) x; c9 v.1 ++ (c129 v.2)
theorem o131 : OpensV 4 c131 Tryz.prog 131 ok131 := OpensV.iso (f := (fun v => (v.v, v.x) : Trm → (List UInt8 × Val))) ((fun a => ⟨a.1, a.2⟩ : (List UInt8 × Val) → Trm)) (fun _ => rfl) t131
def ok46 : List (Trm) → Prop := fun l => l.length ≤ maxLen ∧ ∀ v ∈ l, ok131 v
abbrev c46 : List (Trm) → List V := fun l => [.sl 4 (l.map c131)]
theorem o46 : OpensV 1 c46 Tryz.prog 46 ok46 := OpensV.slice o131 (by decide) Tryz.underlying46 (by kernel_rfl)
theorem t48 : OpensV 2 (fun v : List UInt8 × List (Trm) => c9 v.1 ++ (c46 v.2)) Tryz.prog 48 (fun v => ok9 v.1 ∧ ok46 v.2) := by
  refine OpensV.struct Tryz.underlying48 (by kernel_rfl) ?_
  refine OpensVs.cons (n := 1) (m := 1) (c := c9) (d := fun w : List (Trm) => c46 w) (ok := ok9) (ok' := fun w : List (Trm) => ok46 w) rfl o9 ?_
  exact OpensVs.one (c := c46) (ok := ok46) rfl o46
def ok48 : Atm → Prop := fun x => let v := ((fun v => (v.n, v.a) : Atm → (List UInt8 × List (Trm)))) x; ok9 v.1 ∧ ok46 v.2
abbrev c48 : Atm → List V := fun x => let v := ((fun v => (v.n, v.a) : Atm → (List UInt8 × List (Trm)))) x; c9 v.1 ++ (c46 v.2)
theorem o48 : OpensV 2 c48 Tryz.prog 48 ok48 := OpensV.iso (f := (fun v => (v.n, v.a) : Atm → (List UInt8 × List (Trm)))) ((fun a => ⟨a.1, a.2⟩ : (List UInt8 × List (Trm)) → Atm)) (fun _ => rfl) t48
theorem t50 : OpensV 5 (fun v : Int × Atm × Int × Int => c3 v.1 ++ (c48 v.2.1 ++ (c3 v.2.2.1 ++ (c3 v.2.2.2)))) Tryz.prog 50 (fun v => ok3 v.1 ∧ ok48 v.2.1 ∧ ok3 v.2.2.1 ∧ ok3 v.2.2.2) := by
  refine OpensV.struct Tryz.underlying50 (by kernel_rfl) ?_
  refine OpensVs.cons (n := 1) (m := 4) (c := c3) (d := fun w : Atm × Int × Int => c48 w.1 ++ (c3 w.2.1 ++ (c3 w.2.2))) (ok := ok3) (ok' := fun w : Atm × Int × Int => ok48 w.1 ∧ ok3 w.2.1 ∧ ok3 w.2.2) rfl o3 ?_
  refine OpensVs.cons (n := 2) (m := 2) (c := c48) (d := fun w : Int × Int => c3 w.1 ++ (c3 w.2)) (ok := ok48) (ok' := fun w : Int × Int => ok3 w.1 ∧ ok3 w.2) rfl o48 ?_
  refine OpensVs.cons (n := 1) (m := 1) (c := c3) (d := fun w : Int => c3 w) (ok := ok3) (ok' := fun w : Int => ok3 w) rfl o3 ?_
  exact OpensVs.one (c := c3) (ok := ok3) rfl o3
def ok50 : Nod → Prop := fun x => let v := ((fun v => (v.k, v.a, v.x, v.y) : Nod → (Int × Atm × Int × Int))) x; ok3 v.1 ∧ ok48 v.2.1 ∧ ok3 v.2.2.1 ∧ ok3 v.2.2.2
abbrev c50 : Nod → List V := fun x => let v := ((fun v => (v.k, v.a, v.x, v.y) : Nod → (Int × Atm × Int × Int))) x; c3 v.1 ++ (c48 v.2.1 ++ (c3 v.2.2.1 ++ (c3 v.2.2.2)))
theorem o50 : OpensV 5 c50 Tryz.prog 50 ok50 := OpensV.iso (f := (fun v => (v.k, v.a, v.x, v.y) : Nod → (Int × Atm × Int × Int))) ((fun a => ⟨a.1, a.2.1, a.2.2.1, a.2.2.2⟩ : (Int × Atm × Int × Int) → Nod)) (fun _ => rfl) t50
def ok42 : List (Nod) → Prop := fun l => l.length ≤ maxLen ∧ ∀ v ∈ l, ok50 v
abbrev c42 : List (Nod) → List V := fun l => [.sl 5 (l.map c50)]
theorem o42 : OpensV 1 c42 Tryz.prog 42 ok42 := OpensV.slice o50 (by decide) Tryz.underlying42 (by kernel_rfl)
theorem t59 : OpensV 4 (fun v : List UInt8 × Atm × List (Nod) => c9 v.1 ++ (c48 v.2.1 ++ (c42 v.2.2))) Tryz.prog 59 (fun v => ok9 v.1 ∧ ok48 v.2.1 ∧ ok42 v.2.2) := by
  refine OpensV.struct Tryz.underlying59 (by kernel_rfl) ?_
  refine OpensVs.cons (n := 1) (m := 3) (c := c9) (d := fun w : Atm × List (Nod) => c48 w.1 ++ (c42 w.2)) (ok := ok9) (ok' := fun w : Atm × List (Nod) => ok48 w.1 ∧ ok42 w.2) rfl o9 ?_
  refine OpensVs.cons (n := 2) (m := 1) (c := c48) (d := fun w : List (Nod) => c42 w) (ok := ok48) (ok' := fun w : List (Nod) => ok42 w) rfl o48 ?_
  exact OpensVs.one (c := c42) (ok := ok42) rfl o42
def ok59 : Pat → Prop := fun x => let v := ((fun v => (v.n, v.t, v.l) : Pat → (List UInt8 × Atm × List (Nod)))) x; ok9 v.1 ∧ ok48 v.2.1 ∧ ok42 v.2.2
abbrev c59 : Pat → List V := fun x => let v := ((fun v => (v.n, v.t, v.l) : Pat → (List UInt8 × Atm × List (Nod)))) x; c9 v.1 ++ (c48 v.2.1 ++ (c42 v.2.2))
theorem o59 : OpensV 4 c59 Tryz.prog 59 ok59 := OpensV.iso (f := (fun v => (v.n, v.t, v.l) : Pat → (List UInt8 × Atm × List (Nod)))) ((fun a => ⟨a.1, a.2.1, a.2.2⟩ : (List UInt8 × Atm × List (Nod)) → Pat)) (fun _ => rfl) t59
theorem t29 : OpensV 2 (fun v : Int × Int => c3 v.1 ++ (c3 v.2)) Tryz.prog 29 (fun v => ok3 v.1 ∧ ok3 v.2) := by
  refine OpensV.struct Tryz.underlying29 (by kernel_rfl) ?_
  refine OpensVs.cons (n := 1) (m := 1) (c := c3) (d := fun w : Int => c3 w) (ok := ok3) (ok' := fun w : Int => ok3 w) rfl o3 ?_
  exact OpensVs.one (c := c3) (ok := ok3) rfl o3
def ok29 : Int × Int → Prop := fun v => ok3 v.1 ∧ ok3 v.2
abbrev c29 : Int × Int → List V := fun v => c3 v.1 ++ (c3 v.2)
theorem o29 : OpensV 2 c29 Tryz.prog 29 ok29 := t29
theorem t110 : OpensV 4 (fun v : Int × List UInt8 × (Int × Int) => c3 v.1 ++ (c9 v.2.1 ++ (c29 v.2.2))) Tryz.prog 110 (fun v => ok3 v.1 ∧ ok9 v.2.1 ∧ ok29 v.2.2) := by
  refine OpensV.struct Tryz.underlying110 (by kernel_rfl) ?_
  refine OpensVs.cons (n := 1) (m := 3) (c := c3) (d := fun w : List UInt8 × (Int × Int) => c9 w.1 ++ (c29 w.2)) (ok := ok3) (ok' := fun w : List UInt8 × (Int × Int) => ok9 w.1 ∧ ok29 w.2) rfl o3 ?_
  refine OpensVs.cons (n := 1) (m := 2) (c := c9) (d := fun w : (Int × Int) => c29 w) (ok := ok9) (ok' := fun w : (Int × Int) => ok29 w) rfl o9 ?_
  exact OpensVs.one (c := c29) (ok := ok29) rfl o29
def ok110 : Tok → Prop := fun x => let v := ((fun v => (v.k, v.t, v.p) : Tok → (Int × List UInt8 × (Int × Int)))) x; ok3 v.1 ∧ ok9 v.2.1 ∧ ok29 v.2.2
abbrev c110 : Tok → List V := fun x => let v := ((fun v => (v.k, v.t, v.p) : Tok → (Int × List UInt8 × (Int × Int)))) x; c3 v.1 ++ (c9 v.2.1 ++ (c29 v.2.2))
theorem o110 : OpensV 4 c110 Tryz.prog 110 ok110 := OpensV.iso (f := (fun v => (v.k, v.t, v.p) : Tok → (Int × List UInt8 × (Int × Int)))) ((fun a => ⟨a.1, a.2.1, a.2.2⟩ : (Int × List UInt8 × (Int × Int)) → Tok)) (fun _ => rfl) t110
end Go.PV
namespace Go.PV
open Go
/-! a row's closed facts, one by one -/
theorem joined_of {P : Program} {f : FuncId} {fn : Func} {s : ChangeSpec} {c : OpenClaim} (h1 : c.wf (OpenSpec.ofChange s) = true) (h2 : laidOutB P = true) (h3 : mapsRowed P = true) (h4 : namedTie P c.named s.vars = true)
    (h5 : (P.stops == []) = true) (h6 : (P.stopKnobs == []) = true) (h7 : (c.inPlace == P.inPlace f) = true) (h8 : (c.unfollowed == P.unfollowed f) = true) (h9 : (c.recurses == P.recurses f) = true) (h10 : (c.named == P.varsNamed f) = true)
    (h11 : (c.plainKeys == P.plainKeys) = true) (h12 : P.stopsHeard = true) (h13 : P.mayEnter = true) (h14 : (c.lifted == P.liftsFinal) = true) (h15 : (P.make == some c.make) = true)
    (h16 : (fn.params.all (P.readableRec ·) && (c.stops == []) && (c.knobs == []) &&
      (c.maps == (fn.params.toList ++ s.plain.varTypes P).any (P.mapsRec ·)) && (c.ifaces == (fn.params.toList ++ s.plain.varTypes P).any (P.ifacesRec ·)) && (c.mapsOut == P.mapsAmong fn.resultTypes.toList) &&
      (c.loops == (fn.params.toList ++ s.plain.varTypes P).any (P.loopsFrom ·)) && (c.wideKeys == (fn.params.toList ++ s.plain.varTypes P ++ fn.resultTypes.toList).any (P.wideKeysFrom ·)) &&
      s.vars.all (P.varReadable ·) && fn.resultTypes.all (fun t => P.readableRec t && decide (t < P.types.size)) && (c.ifacesOut == fn.resultTypes.toList.any (P.ifacesRec ·)) && (c.loopsOut == fn.resultTypes.toList.any (P.loopsFrom ·)) && c.shortTexts.isNone &&
      (c.kinds == (if c.domain.isEmpty then [] else fn.params.toList.map fun t => match P.underlying t with | some (.int k) => some k | _ => none)) && (c.pinned == c.pinnedBy) &&
      (c.veiled == (fn.params.toList ++ s.plain.varTypes P ++ fn.resultTypes.toList).any (P.veiledRec ·)) && c.veiledFits P fn.params.toList (fn.params.toList ++ s.plain.varTypes P ++ fn.resultTypes.toList)) = true) : joinedFacts P f fn s c = true := by
  unfold joinedFacts
  rw [h1, h2, h3, h4, h5, h6, h7, h8, h9, h10, h11, h12, h13, h14, h15]
  simp only [Bool.true_and, Bool.and_true]
  exact h16
end Go.PV
namespace Go.PV
open Go Go.RowKit Go.Lib Go.Proofs Go.Proofs.YtfdopmapaaagoaaGreatDoor
theorem pow_datum : (Rows.laid_internal_strconv_uint64pow10 : DataW Unit) = Lib.tabData .u64 Lib.pow10Tab := by kernel_rfl
theorem laidT_of {r : List (String × DataW Unit)} {W : World} (h : laidMet Tryz.prog (("internal/strconv.uint64pow10", Rows.laid_internal_strconv_uint64pow10) :: r) W) : Lib.TabIs Tryz.prog W "internal/strconv.uint64pow10" .u64 Lib.pow10Tab := by
  rw [pow_datum] at h
  exact tabIs_of_head (g := 1) (by kernel_rfl) (by kernel_rfl) Tryz.underlying285 Tryz.underlying266 (by kernel_rfl) (by kernel_rfl) h
theorem star_es : "*" ++ "errors.errorString" = "*errors.errorString" := by decide
theorem row_es (u : TypeId) (h : Tryz.prog.typeName? 3 u = some "*errors.errorString") : u = 303 :=
  typeName_ptr_named (nm := "errors.errorString") (by rw [star_es]; kernel_rfl) (by kernel_rfl) (by decide) u (by rw [star_es]; exact h)
theorem globRan_of {r : List (String × DataW Unit)} {W : World} (h : laidMet Tryz.prog (("strconv.ErrRange", Rows.laid_strconv_ErrRange) :: r) W) : ∃ tp p, W.var? Tryz.prog "strconv.ErrRange" = some #[.iface tp p] := by
  obtain ⟨a, s, hv, _⟩ := laid_sentinel (g := 3) h (by kernel_rfl) (by kernel_rfl) Tryz.underlying217 row_es Tryz.underlying303 Tryz.underlying305 rfl rfl Tryz.underlying9 (by kernel_rfl) (by kernel_rfl)
  exact ⟨_, _, hv⟩
theorem globSyn_of {r : List (String × DataW Unit)} {W : World} (h : laidMet Tryz.prog (("strconv.ErrSyntax", Rows.laid_strconv_ErrSyntax) :: r) W) : ∃ tp p, W.var? Tryz.prog "strconv.ErrSyntax" = some #[.iface tp p] := by
  obtain ⟨a, s, hv, _⟩ := laid_sentinel (g := 2) h (by kernel_rfl) (by kernel_rfl) Tryz.underlying217 row_es Tryz.underlying303 Tryz.underlying305 rfl rfl Tryz.underlying9 (by kernel_rfl) (by kernel_rfl)
  exact ⟨_, _, hv⟩
end Go.PV
