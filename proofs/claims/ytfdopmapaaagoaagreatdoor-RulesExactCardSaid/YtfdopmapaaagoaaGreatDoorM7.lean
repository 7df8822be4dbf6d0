/- Part of the proof. -/
import Derived.Test.YtfdopmapaaagoaaGreatDoorM6
set_option linter.unusedVariables false
set_option linter.unusedSimpArgs false
namespace Go.PV
open Go Go.Proofs
set_option maxRecDepth 100000
theorem way_good (r : Rd) (hb : tokB r.l) : Good Tryz.prog 224 [.agg [.ptr 0 0 0]] [r.ob] [.int .i64 r.way.1] [r.way.2.ob] := by
  have hl := hb.1
  refine good_of hP Tryz.func224 (by kernel_rfl) (lv := [0, 1, 2, 3, 4, 5, 6, 7, 8, 15, 21]) (js := []) ⟨rfl, rfl, rfl, rfl, rfl, rfl, _, rfl, ?_⟩
  conv => whnf
  refine call0 (ways_good) ?_
  conv => whnf
  refine loop_of hP [0, 1, 2, 3, 4, 5, 6, 7, 8, 15, 21] [] [1, 2, 5, 6, 7] [0, 65] [] (fun m st => ∃ k : Nat, m = 4 - k ∧ k ≤ 4 ∧ (∀ j (h : j < wayL.length), j < k → r.see 5 wayL[j] = false) ∧ st = ⟨[(1, .ptr 65 0 0), (2, .int .i64 0), (5, .sl 1 (strV wayL)), (6, .int .i64 4), (7, .int .i64 k)], [(0, r.ob), (65, .box 0 [.ptr 0 0 0])]⟩) 4 ?_ ?_
  · conv => whnf
    exact ⟨0, rfl, by omega, fun j _ h => by omega, rfl⟩
  · rintro m st ⟨k, rfl, hk, hn, rfl⟩
    conv => whnf
    refine branch_of (fun h => ?_) (fun h => ?_)
    · have h := of_decide_eq_true h
      have hk4 : k < 4 := by omega
      have hk' : k < wayL.length := hk4
      conv => whnf
      refine ⟨[.str wayL[k]], idxM (f := fun x : Bs => [V.str x]) hk' rfl, ?_⟩
      conv => whnf
      refine callN [(0, 0)] (rsign_good' r wayL[k] hl) ?_ 
      conv => whnf
      refine ⟨⟨⟩, rfl, ?_⟩
      cases hs : r.see 5 wayL[k] with
      | true =>
        have hw : r.way = ((k : Int) + 1, r.step) := by
          unfold Rd.way
          have h4 : k = 0 ∨ k = 1 ∨ k = 2 ∨ k = 3 := by omega
          rcases h4 with rfl | rfl | rfl | rfl
          · rw [if_pos (show r.see 5 [61] = true from hs)]; rfl
          · rw [if_neg (by rw [show r.see 5 [61] = false from hn 0 (by decide) (by omega)]; simp), if_pos (show r.see 5 [33, 61] = true from hs)]; rfl
          · rw [if_neg (by rw [show r.see 5 [61] = false from hn 0 (by decide) (by omega)]; simp), if_neg (by rw [show r.see 5 [33, 61] = false from hn 1 (by decide) (by omega)]; simp), if_pos (show r.see 5 [60] = true from hs)]; rfl
          · rw [if_neg (by rw [show r.see 5 [61] = false from hn 0 (by decide) (by omega)]; simp), if_neg (by rw [show r.see 5 [33, 61] = false from hn 1 (by decide) (by omega)]; simp), if_neg (by rw [show r.see 5 [60] = false from hn 2 (by decide) (by omega)]; simp), if_pos (show r.see 5 [60, 61] = true from hs)]; rfl
        have hd : r.word 5 wayL[k] = r.step := by unfold Rd.word; rw [if_pos hs]
        rw [hw, hd]
        conv => whnf
        have he : IntKind.i64.wrap (1 + (k : Int)) = (k : Int) + 1 := by rw [wr (by omega) (by omega)]; omega
        rw [he]
        refine ⟨[], rfl, ?_⟩
        conv => whnf
        exact ⟨⟨⟩, rfl, trivial⟩
      | false =>
        have hd : r.word 5 wayL[k] = r := by unfold Rd.word; rw [if_neg (by rw [hs]; simp)]
        rw [hd]
        conv => whnf
        refine ⟨4 - (k + 1), by omega, k + 1, rfl, by omega, fun j hj hjk => ?_, ?_⟩
        · by_cases e : j = k
          · subst e; exact hs
          · exact hn j hj (by omega)
        · rw [wr (by omega) (by omega)]; rfl
    · have h := of_decide_eq_false h
      have hw : r.way = (0, if r.isOpen then r.fail else r) := by
        unfold Rd.way
        rw [if_neg (by rw [show r.see 5 [61] = false from hn 0 (by decide) (by omega)]; simp), if_neg (by rw [show r.see 5 [33, 61] = false from hn 1 (by decide) (by omega)]; simp), if_neg (by rw [show r.see 5 [60] = false from hn 2 (by decide) (by omega)]; simp), if_neg (by rw [show r.see 5 [60, 61] = false from hn 3 (by decide) (by omega)]; simp)]
      rw [hw]
      conv => whnf
      refine callN [(0, 0)] (open_good r) ?_ 
      conv => whnf
      refine ⟨⟨⟩, rfl, ?_⟩
      cases ho : r.isOpen with
      | true =>
        conv => whnf
        refine ⟨[], rfl, ?_⟩
        conv => whnf
        exact ⟨⟨⟩, rfl, trivial⟩
      | false =>
        conv => whnf
        refine ⟨[], rfl, ?_⟩
        conv => whnf
        exact ⟨⟨⟩, rfl, trivial⟩
theorem condR_good (r : Rd) (hb : tokB r.l) : Good Tryz.prog 177 [.agg [.ptr 0 0 0]] [r.ob] [.agg r.condR.1.c] [r.condR.2.ob] := by
  have hl := hb.1
  refine good_of hP Tryz.func177 (by kernel_rfl) (lv := [0, 1, 2, 3, 6, 24]) (js := []) ⟨rfl, rfl, rfl, rfl, rfl, rfl, _, rfl, ?_⟩
  unfold Rd.condR
  conv => whnf
  refine callN [(0, 0)] (rsign_good' r [91] hl) ?_ 
  conv => whnf
  refine ⟨⟨⟩, rfl, ?_⟩
  unfold Rd.word
  cases hs : r.see 5 [91] with
  | true =>
    rw [if_pos rfl, if_pos rfl]
    have b0 : tokB r.step.l := hb
    have e1 := Rd.expr_l r.step
    have b1 : tokB r.step.expr.2.l := by rw [e1.1]; exact b0
    have e2 := Rd.way_l r.step.expr.2
    have b2 : tokB r.step.expr.2.way.2.l := by rw [e2.1]; exact b1
    have e3 := Rd.expr_l r.step.expr.2.way.2
    have b3 : tokB r.step.expr.2.way.2.expr.2.l := by rw [e3.1]; exact b2
    conv => whnf
    refine callN [(0, 0)] (rexpr_good r.step b0) ?_ 
    conv => whnf
    refine ⟨⟨⟩, rfl, ?_⟩
    conv => whnf
    refine callN [(0, 0)] (way_good r.step.expr.2 b1) ?_ 
    conv => whnf
    refine ⟨⟨⟩, rfl, ?_⟩
    conv => whnf
    refine callN [(0, 0)] (rexpr_good r.step.expr.2.way.2 b2) ?_ 
    conv => whnf
    refine ⟨⟨⟩, rfl, ?_⟩
    conv => whnf
    refine callN [(0, 0)] (want_good r.step.expr.2.way.2.expr.2 [93] b3.1) ?_ 
    conv => whnf
    refine ⟨⟨⟩, rfl, ?_⟩
    conv => whnf
    refine ⟨[], rfl, ?_⟩
    conv => whnf
    exact ⟨⟨⟩, rfl, trivial⟩
  | false =>
    rw [if_neg (by simp), if_neg (by simp)]
    conv => whnf
    refine callN [(0, 0)] (rword_good r [110, 111, 116] hl) ?_ 
    conv => whnf
    refine ⟨⟨⟩, rfl, ?_⟩
    unfold Rd.word
    cases hs2 : r.see 1 [110, 111, 116] with
    | true =>
      rw [if_pos rfl, if_pos rfl]
      conv => whnf
      refine callN [(0, 0)] (ratom_good r.step hb) ?_ 
      conv => whnf
      refine ⟨⟨⟩, rfl, ?_⟩
      conv => whnf
      refine ⟨[], rfl, ?_⟩
      conv => whnf
      exact ⟨⟨⟩, rfl, trivial⟩
    | false =>
      rw [if_neg (by simp), if_neg (by simp)]
      conv => whnf
      refine callN [(0, 0)] (ratom_good r hb) ?_ 
      conv => whnf
      refine ⟨⟨⟩, rfl, ?_⟩
      conv => whnf
      refine ⟨[], rfl, ?_⟩
      conv => whnf
      exact ⟨⟨⟩, rfl, trivial⟩
end Go.PV
namespace Go.PV
open Go Go.Proofs
set_option maxRecDepth 100000
theorem takeN {α : Type} (n : Nat) (t : α) (ts : List α) (u : α) : (t :: (ts ++ [u])).take n = if ts.length + 2 ≤ n then (t :: ts).take n ++ [u] else (t :: ts).take n := by
  rw [← List.cons_append]
  split
  · rw [List.take_of_length_le (by simp; omega), List.take_of_length_le (by simp; omega)]
  · rw [List.take_append_of_le_length (by simp; omega)]
theorem many_no {α : Type} {g : Rd → α × Rd} {r : Rd} (h : r.see 5 [44] = false) (f : Nat) : Rd.many g f r = ([], r) := by cases f <;> simp [Rd.many, h]
theorem actR_good (r : Rd) (hb : tokB r.l) : Good Tryz.prog 178 [.agg [.ptr 0 0 0]] [r.ob] [.agg r.actR.1.c] [r.actR.2.ob] := by
  have hl := hb.1
  refine good_of hP Tryz.func178 (by kernel_rfl) (lv := [0, 1, 2, 3, 4, 5, 8, 18, 43, 55, 62]) (js := []) ⟨rfl, rfl, rfl, rfl, rfl, rfl, _, rfl, ?_⟩
  conv => whnf
  refine callN [(0, 0)] (rword_good r [100, 114, 111, 112] hl) ?_ 
  conv => whnf
  refine ⟨⟨⟩, rfl, ?_⟩
  unfold Rd.word
  cases hs : r.see 1 [100, 114, 111, 112] with
  | true =>
    have hA : r.actR = (⟨2, [], [], r.step.num.1⟩, if r.step.num.2.isOpen && decide (r.step.num.1 < 0) then r.step.num.2.back else r.step.num.2) := by unfold Rd.actR; rw [if_pos hs]
    rw [if_pos rfl, hA]
    have hlt := cur_lt' hs
    have hup := @Rd.num_up r.step
    have h1 := Rd.num_l r.step
    conv => whnf
    refine callN [(0, 0)] (rnumber_good r.step hb) ?_ 
    conv => whnf
    refine ⟨⟨⟩, rfl, ?_⟩
    generalize r.step.num = x at *
    conv => whnf
    refine callN [(0, 0)] (open_good x.2) ?_ 
    conv => whnf
    refine ⟨⟨⟩, rfl, ?_⟩
    cases ho : x.2.isOpen with
    | false =>
      rw [Bool.false_and, if_neg (by simp)]
      conv => whnf
      refine ⟨[], rfl, ?_⟩
      conv => whnf
      exact ⟨⟨⟩, rfl, trivial⟩
    | true =>
      rw [Bool.true_and]
      have hi : x.2.i = r.i + 2 := hup ho
      conv => whnf
      refine branch_of (fun h => ?_) (fun h => ?_)
      · rw [h, if_pos rfl]
        have hw : IntKind.i64.wrap ((x.2.i : Int) - 1) = ((x.2.i - 1 : Nat) : Int) := by rw [wr (by omega) (by omega)]; omega
        conv => whnf
        rw [hw]
        refine ⟨[], rfl, ?_⟩
        conv => whnf
        exact ⟨⟨⟩, rfl, trivial⟩
      · rw [h, if_neg (by simp)]
        conv => whnf
        refine ⟨[], rfl, ?_⟩
        conv => whnf
        exact ⟨⟨⟩, rfl, trivial⟩
  | false =>
  have hA : r.actR = if (r.want 5 [43]).name.2.see 5 [40] then (⟨1, (r.want 5 [43]).name.1, ((r.want 5 [43]).name.2.step.expr.1 :: (Rd.many Rd.expr r.l.length (r.want 5 [43]).name.2.step.expr.2).1).take 6, 0⟩, (Rd.many Rd.expr r.l.length (r.want 5 [43]).name.2.step.expr.2).2.want 5 [41]) else (⟨1, (r.want 5 [43]).name.1, [], 0⟩, (r.want 5 [43]).name.2) := by
    unfold Rd.actR; rw [if_neg (by rw [hs]; simp)]
  rw [if_neg (by simp), hA]
  have e0 := Rd.want_l r 5 [43]
  have b0 : tokB (r.want 5 [43]).l := by rw [e0.1]; exact hb
  have e1 := Rd.name_l (r.want 5 [43])
  have b1 : tokB (r.want 5 [43]).name.2.l := by rw [e1.1]; exact b0
  have hle : (r.want 5 [43]).name.2.l = r.l := e1.1.trans e0.1
  conv => whnf
  refine callN [(0, 0)] (want_good r [43] hl) ?_ 
  conv => whnf
  refine ⟨⟨⟩, rfl, ?_⟩
  conv => whnf
  refine callN [(0, 0)] (rname_good (r.want 5 [43]) b0.1 (fun t h => Nat.le_trans (b0.2 t h) (by omega))) ?_ 
  conv => whnf
  refine ⟨⟨⟩, rfl, ?_⟩
  generalize (r.want 5 [43]).name = x at *
  conv => whnf
  refine callN [(0, 0)] (rsign_good' x.2 [40] b1.1) ?_ 
  conv => whnf
  refine ⟨⟨⟩, rfl, ?_⟩
  unfold Rd.word
  cases hs2 : x.2.see 5 [40] with
  | false =>
    rw [if_neg (by simp), if_neg (by simp)]
    conv => whnf
    refine ⟨[], rfl, ?_⟩
    conv => whnf
    exact ⟨⟨⟩, rfl, trivial⟩
  | true =>
  rw [if_pos rfl, if_pos rfl]
  have b2 : tokB x.2.step.l := b1
  have e2 := Rd.expr_l x.2.step
  conv => whnf
  refine callN [(0, 0)] (rexpr_good x.2.step b2) ?_ 
  conv => whnf
  refine ⟨⟨⟩, rfl, ?_⟩
  generalize x.2.step.expr = y at *
  have hyl : y.2.l = r.l := e2.1.trans hle
  generalize hU : Rd.many Rd.expr r.l.length y.2 = U
  conv => whnf
  refine ⟨⟨⟩, by dsimp only; simp only [List.length_cons, List.length_nil]; omega, ?_⟩
  conv => whnf
  refine ⟨by kernel_rfl, ?_⟩
  conv => whnf
  refine loop_of hP [0, 1, 2, 3, 4, 5, 8, 18, 43, 55, 62] [] [1, 2, 4] [0, 65, 66, 68, 115] [] (fun m st => ∃ (f : Nat) (ts : List (List Stp)) (q : Rd), m = q.l.length - q.i ∧ q.l = r.l ∧ q.l.length ≤ f + q.i ∧ f + ts.length = r.l.length ∧ U = (ts ++ (Rd.many Rd.expr f q).1, (Rd.many Rd.expr f q).2) ∧
    st = ⟨[(1, .ptr 65 0 0), (2, .ptr 66 0 0), (4, .ptr 68 0 0)], [(0, q.ob), (65, .box 0 [.ptr 0 0 0]), (66, .box 0 [.int .i64 0, .str [], .nil, .int .i64 0]), (68, .box 0 [.int .i64 1, .str x.1, .own 115 0, .int .i64 0]), (115, .arr 0 false 1 (opsV ((y.1 :: ts).take 6)))]⟩) (y.2.l.length - y.2.i) ?_ ?_
  · conv => whnf
    exact ⟨r.l.length, [], y.2, rfl, hyl, by rw [hyl]; omega, rfl, hU.symm, rfl⟩
  · rintro m st ⟨f, ts, q, rfl, hq, hf, hts, he, rfl⟩
    have bq : tokB q.l := by rw [hq]; exact hb
    conv => whnf
    refine callN [(0, 0)] (rsign_good' q [44] bq.1) ?_ 
    conv => whnf
    refine ⟨⟨⟩, rfl, ?_⟩
    unfold Rd.word
    cases hs3 : q.see 5 [44] with
    | true =>
      have hlt := cur_lt' hs3
      obtain ⟨f, rfl⟩ : ∃ f', f = f' + 1 := ⟨f - 1, by omega⟩
      rw [Rd.many, if_pos hs3] at he
      rw [if_pos rfl]
      have h2 := Rd.expr_l q.step
      conv => whnf
      refine callN [(0, 0)] (rexpr_good q.step bq) ?_ 
      conv => whnf
      refine ⟨⟨⟩, rfl, ?_⟩
      generalize q.step.expr = z at *
      have h3 : q.i + 1 ≤ z.2.i := h2.2
      have h4 : z.2.l = q.l := h2.1
      have hU2 : U = ((ts ++ [z.1]) ++ (Rd.many Rd.expr f z.2).1, (Rd.many Rd.expr f z.2).2) := by rw [he]; simp
      conv => whnf
      refine branch_of (fun h5 => ?_) (fun h5 => ?_)
      · have h5 := of_decide_eq_true h5
        rw [List.length_map, List.length_take, List.length_cons] at h5
        conv => whnf
        refine ⟨⟨⟩, by dsimp only; simp only [List.length_map, List.length_take, List.length_cons, List.length_nil]; omega, ?_⟩
        conv => whnf
        refine ⟨z.2.l.length - z.2.i, by rw [h4]; omega, f, ts ++ [z.1], z.2, rfl, h4.trans hq, by rw [h4]; omega, by simp; omega, hU2, ?_⟩
        rw [takeN, if_pos (by omega), show opsV ((y.1 :: ts).take 6 ++ [z.1]) = opsV ((y.1 :: ts).take 6) ++ [[.sl 5 (stpV z.1)]] from List.map_append]
      · have h5 := of_decide_eq_false h5
        rw [List.length_map, List.length_take, List.length_cons] at h5
        conv => whnf
        refine ⟨z.2.l.length - z.2.i, by rw [h4]; omega, f, ts ++ [z.1], z.2, rfl, h4.trans hq, by rw [h4]; omega, by simp; omega, hU2, ?_⟩
        rw [takeN, if_neg (by omega)]
    | false =>
      rw [many_no hs3, List.append_nil] at he
      subst he
      conv => whnf
      refine callN [(0, 0)] (want_good q [41] bq.1) ?_ 
      conv => whnf
      refine ⟨⟨⟩, rfl, ?_⟩
      conv => whnf
      refine ⟨[], rfl, ?_⟩
      conv => whnf
      exact ⟨⟨⟩, rfl, trivial⟩
end Go.PV
namespace Go.PV
open Go Go.Proofs
set_option maxRecDepth 100000
theorem rule_good (r : Rd) (hb : tokB r.l) : Good Tryz.prog 113 [.agg [.ptr 0 0 0]] [r.ob] [.agg r.rule.1.v] [r.rule.2.ob] := by
  have hl := hb.1
  refine good_of hP Tryz.func113 (by kernel_rfl) (lv := [0, 1, 2, 3, 4, 5, 29, 35, 54, 60]) (js := []) ⟨rfl, rfl, rfl, rfl, rfl, rfl, _, rfl, ?_⟩
  have e0 := Rd.want_l r 1 [114, 117, 108, 101]
  generalize hv0 : r.want 1 [114, 117, 108, 101] = v0 at *
  have b0 : tokB v0.l := by rw [e0.1]; exact hb
  have e1 := Rd.name_l v0
  generalize hv1 : v0.name = v1 at *
  have b1 : tokB v1.2.l := by rw [e1.1]; exact b0
  have e2 := Rd.num_l v1.2
  generalize hv2 : v1.2.num = v2 at *
  have b2 : tokB v2.2.l := by rw [e2.1]; exact b1
  have e3 := Rd.want_l v2.2 5 [58]
  generalize hv3 : v2.2.want 5 [58] = v3 at *
  have b3 : tokB v3.l := by rw [e3.1]; exact b2
  have e4 := Rd.condR_l v3
  generalize hv4 : v3.condR = v4 at *
  have b4 : tokB v4.2.l := by rw [e4.1]; exact b3
  have hl4 : v4.2.l = r.l := by rw [e4.1, e3.1, e2.1, e1.1, e0.1]
  have e5 := Rd.many_l Rd.condR_l r.l.length v4.2
  generalize hv5 : Rd.many Rd.condR r.l.length v4.2 = v5 at *
  have b5 : tokB v5.2.l := by rw [e5.1]; exact b4
  have e6 := Rd.want_l v5.2 5 [45, 62]
  generalize hv6 : v5.2.want 5 [45, 62] = v6 at *
  have b6 : tokB v6.l := by rw [e6.1]; exact b5
  have e7 := Rd.actR_l v6
  generalize hv7 : v6.actR = v7 at *
  have b7 : tokB v7.2.l := by rw [e7.1]; exact b6
  have hl7 : v7.2.l = r.l := by rw [e7.1, e6.1, e5.1, hl4]
  generalize hv8 : Rd.many Rd.actR r.l.length v7.2 = v8
  have hR : r.rule = (⟨v1.1, v2.1, (v4.1 :: v5.1).take 7, (v7.1 :: v8.1).take 7⟩, v8.2.want 5 [46]) := by
    unfold Rd.rule
    dsimp only
    rw [hv0, hv1, hv2, hv3, hv4, hv5, hv6, hv7, hv8]
  rw [hR]
  conv => whnf
  refine callN [(0, 0)] (ask_good r [114, 117, 108, 101] hl) ?_ 
  conv => whnf
  refine ⟨⟨⟩, rfl, ?_⟩
  rw [hv0]
  conv => whnf
  refine callN [(0, 0)] (rname_good v0 b0.1 (fun t h => Nat.le_trans (b0.2 t h) (by omega))) ?_ 
  conv => whnf
  refine ⟨⟨⟩, rfl, ?_⟩
  rw [hv1]
  conv => whnf
  refine callN [(0, 0)] (rnumber_good v1.2 b1) ?_ 
  conv => whnf
  refine ⟨⟨⟩, rfl, ?_⟩
  rw [hv2]
  conv => whnf
  refine callN [(0, 0)] (want_good v2.2 [58] b2.1) ?_ 
  conv => whnf
  refine ⟨⟨⟩, rfl, ?_⟩
  rw [hv3]
  conv => whnf
  refine callN [(0, 0)] (condR_good v3 b3) ?_ 
  conv => whnf
  refine ⟨⟨⟩, rfl, ?_⟩
  rw [hv4]
  conv => whnf
  refine ⟨⟨⟩, by dsimp only; simp only [List.length_cons, List.length_nil]; omega, ?_⟩
  conv => whnf
  refine ⟨by kernel_rfl, ?_⟩
  conv => whnf
  refine loop_of hP [0, 1, 2, 3, 4, 5, 29, 35, 54, 60] [] [1, 2, 3] [0, 65, 66, 67, 89] [] (fun m st => ∃ (f : Nat) (ts : List Cnd) (q : Rd), m = q.l.length - q.i ∧ q.l = r.l ∧ q.l.length ≤ f + q.i ∧ f + ts.length = r.l.length ∧ v5 = (ts ++ (Rd.many Rd.condR f q).1, (Rd.many Rd.condR f q).2) ∧
    st = ⟨[(1, .ptr 65 0 0), (2, .ptr 66 0 0), (3, .ptr 67 0 0)], [(0, q.ob), (65, .box 0 [.ptr 0 0 0]), (66, .box 0 [.str [], .int .i64 0, .nil, .nil]), (67, .box 0 [.str v1.1, .int .i64 v2.1, .own 89 0, .nil]), (89, .arr 0 false 6 (cndV ((v4.1 :: ts).take 7)))]⟩) (v4.2.l.length - v4.2.i) ?_ ?_
  · conv => whnf
    exact ⟨r.l.length, [], v4.2, rfl, hl4, by rw [hl4]; omega, rfl, hv5.symm, rfl⟩
  · rintro m st ⟨f, ts, q, rfl, hq, hf, hts, he, rfl⟩
    have bq : tokB q.l := by rw [hq]; exact hb
    conv => whnf
    refine callN [(0, 0)] (rsign_good' q [44] bq.1) ?_ 
    conv => whnf
    refine ⟨⟨⟩, rfl, ?_⟩
    unfold Rd.word
    cases hs3 : q.see 5 [44] with
    | true =>
      have hlt := cur_lt' hs3
      obtain ⟨f, rfl⟩ : ∃ f', f = f' + 1 := ⟨f - 1, by omega⟩
      rw [Rd.many, if_pos hs3] at he
      rw [if_pos rfl]
      have h2 := Rd.condR_l q.step
      conv => whnf
      refine callN [(0, 0)] (condR_good q.step bq) ?_ 
      conv => whnf
      refine ⟨⟨⟩, rfl, ?_⟩
      generalize q.step.condR = z at *
      have h3 : q.i + 1 ≤ z.2.i := h2.2
      have h4 : z.2.l = q.l := h2.1
      have hU2 : v5 = ((ts ++ [z.1]) ++ (Rd.many Rd.condR f z.2).1, (Rd.many Rd.condR f z.2).2) := by rw [he]; simp
      conv => whnf
      refine branch_of (fun h5 => ?_) (fun h5 => ?_)
      · have h5 := of_decide_eq_true h5
        rw [List.length_map, List.length_take, List.length_cons] at h5
        conv => whnf
        refine ⟨⟨⟩, by dsimp only; simp only [List.length_map, List.length_take, List.length_cons, List.length_nil]; omega, ?_⟩
        conv => whnf
        refine ⟨z.2.l.length - z.2.i, by rw [h4]; omega, f, ts ++ [z.1], z.2, rfl, h4.trans hq, by rw [h4]; omega, by simp; omega, hU2, ?_⟩
        rw [takeN, if_pos (by omega), show cndV ((v4.1 :: ts).take 7 ++ [z.1]) = cndV ((v4.1 :: ts).take 7) ++ [z.1.c] from List.map_append]
      · have h5 := of_decide_eq_false h5
        rw [List.length_map, List.length_take, List.length_cons] at h5
        conv => whnf
        refine ⟨z.2.l.length - z.2.i, by rw [h4]; omega, f, ts ++ [z.1], z.2, rfl, h4.trans hq, by rw [h4]; omega, by simp; omega, hU2, ?_⟩
        rw [takeN, if_neg (by omega)]
    | false =>
      rw [many_no hs3, List.append_nil] at he
      have hq5 : q = v5.2 := by rw [he]
      have ht5 : ts = v5.1 := by rw [he]
      subst hq5 ht5
      conv => whnf
      refine callN [(0, 0)] (want_good v5.2 [45, 62] b5.1) ?_ 
      conv => whnf
      refine ⟨⟨⟩, rfl, ?_⟩
      rw [hv6]
      conv => whnf
      refine callN [(0, 0)] (actR_good v6 b6) ?_ 
      conv => whnf
      refine ⟨⟨⟩, rfl, ?_⟩
      rw [hv7]
      conv => whnf
      refine ⟨⟨⟩, by dsimp only; simp only [List.length_cons, List.length_nil]; omega, ?_⟩
      conv => whnf
      refine ⟨by kernel_rfl, ?_⟩
      conv => whnf
      refine loop_of hP [0, 1, 2, 3, 4, 5, 29, 35, 54, 60] [] [1, 2, 3] [0, 65, 66, 67, 89, 114] [] (fun m st => ∃ (f : Nat) (ts : List Act) (q : Rd), m = q.l.length - q.i ∧ q.l = r.l ∧ q.l.length ≤ f + q.i ∧ f + ts.length = r.l.length ∧ v8 = (ts ++ (Rd.many Rd.actR f q).1, (Rd.many Rd.actR f q).2) ∧
        st = ⟨[(1, .ptr 65 0 0), (2, .ptr 66 0 0), (3, .ptr 67 0 0)], [(0, q.ob), (65, .box 0 [.ptr 0 0 0]), (66, .box 0 [.str [], .int .i64 0, .nil, .nil]), (67, .box 0 [.str v1.1, .int .i64 v2.1, .own 89 0, .own 114 0]), (89, .arr 0 false 6 (cndV ((v4.1 :: v5.1).take 7))), (114, .arr 0 false 4 (actV ((v7.1 :: ts).take 7)))]⟩) (v7.2.l.length - v7.2.i) ?_ ?_
      · conv => whnf
        exact ⟨r.l.length, [], v7.2, rfl, hl7, by rw [hl7]; omega, rfl, hv8.symm, rfl⟩
      · rintro m st ⟨f, ts, q, rfl, hq, hf, hts, he, rfl⟩
        have bq : tokB q.l := by rw [hq]; exact hb
        conv => whnf
        refine callN [(0, 0)] (rsign_good' q [44] bq.1) ?_ 
        conv => whnf
        refine ⟨⟨⟩, rfl, ?_⟩
        unfold Rd.word
        cases hs3 : q.see 5 [44] with
        | true =>
          have hlt := cur_lt' hs3
          obtain ⟨f, rfl⟩ : ∃ f', f = f' + 1 := ⟨f - 1, by omega⟩
          rw [Rd.many, if_pos hs3] at he
          rw [if_pos rfl]
          have h2 := Rd.actR_l q.step
          conv => whnf
          refine callN [(0, 0)] (actR_good q.step bq) ?_ 
          conv => whnf
          refine ⟨⟨⟩, rfl, ?_⟩
          generalize q.step.actR = z at *
          have h3 : q.i + 1 ≤ z.2.i := h2.2
          have h4 : z.2.l = q.l := h2.1
          have hU2 : v8 = ((ts ++ [z.1]) ++ (Rd.many Rd.actR f z.2).1, (Rd.many Rd.actR f z.2).2) := by rw [he]; simp
          conv => whnf
          refine branch_of (fun h5 => ?_) (fun h5 => ?_)
          · have h5 := of_decide_eq_true h5
            rw [List.length_map, List.length_take, List.length_cons] at h5
            conv => whnf
            refine ⟨⟨⟩, by dsimp only; simp only [List.length_map, List.length_take, List.length_cons, List.length_nil]; omega, ?_⟩
            conv => whnf
            refine ⟨z.2.l.length - z.2.i, by rw [h4]; omega, f, ts ++ [z.1], z.2, rfl, h4.trans hq, by rw [h4]; omega, by simp; omega, hU2, ?_⟩
            rw [takeN, if_pos (by omega), show actV ((v7.1 :: ts).take 7 ++ [z.1]) = actV ((v7.1 :: ts).take 7) ++ [z.1.c] from List.map_append]
          · have h5 := of_decide_eq_false h5
            rw [List.length_map, List.length_take, List.length_cons] at h5
            conv => whnf
            refine ⟨z.2.l.length - z.2.i, by rw [h4]; omega, f, ts ++ [z.1], z.2, rfl, h4.trans hq, by rw [h4]; omega, by simp; omega, hU2, ?_⟩
            rw [takeN, if_neg (by omega)]
        | false =>
          rw [many_no hs3, List.append_nil] at he
          have hq8 : q = v8.2 := by rw [he]
          have ht8 : ts = v8.1 := by rw [he]
          subst hq8 ht8
          conv => whnf
          refine callN [(0, 0)] (want_good v8.2 [46] bq.1) ?_ 
          conv => whnf
          refine ⟨⟨⟩, rfl, ?_⟩
          conv => whnf
          refine ⟨[], rfl, ?_⟩
          conv => whnf
          exact ⟨⟨⟩, rfl, trivial⟩
end Go.PV
namespace Go.PV
open Go Go.Proofs
set_option maxRecDepth 100000
theorem readR_good (l : List Tok) (i : Nat) (hb : tokB l) (hi : i ≤ l.length) : Good Tryz.prog 53 [.sl 4 (toksV l), .int .i64 i] [] [.agg (readR l i).1.v, .int .i64 (readR l i).2.1, .int .i64 (readR l i).2.2] [] := by
  refine good_of hP Tryz.func53 (by kernel_rfl) (lv := [0, 1, 4, 5, 6, 7, 8, 16, 36, 39]) (js := []) ⟨rfl, rfl, rfl, rfl, rfl, rfl, _, rfl, ?_⟩
  have hs := Rd.rule_s (rd0 l i)
  unfold readR
  dsimp only
  conv => whnf
  refine call0 ((begin_good l i hb.1).1 ⟨by omega, by omega⟩) ?_
  conv => whnf
  refine callN [(1792, 0)] (rule_good (rd0 l i) hb) ?_ 
  conv => whnf
  refine ⟨⟨⟩, rfl, ?_⟩
  conv => whnf
  refine callN [(1792, 0)] (end_good (rd0 l i).rule.2 i) ?_ 
  conv => whnf
  refine ⟨⟨⟩, rfl, ?_⟩
  generalize (rd0 l i).rule = x at *
  by_cases he : x.2.endE = 0
  · rw [he, if_pos rfl]
    conv => whnf
    refine call0 (rcheck_good x.1 hs) ?_
    cases ruleOk x.1 with
    | true =>
      rw [if_pos rfl]
      conv => whnf
      exact fin0 rfl trivial
    | false =>
      rw [if_neg (by simp)]
      conv => whnf
      exact fin0 rfl trivial
  · rw [if_neg he]
    have e7 : x.2.endE = 7 := by
      unfold Rd.endE at *
      split
      · rfl
      · rename_i h; rw [if_neg h] at he; exact absurd rfl he
    rw [e7]
    conv => whnf
    exact fin0 rfl trivial
theorem readR_bad (l : List Tok) (i : Int) (hl : l.length ≤ 1000000) (hi : ¬ (0 ≤ i ∧ i ≤ l.length)) : Good Tryz.prog 53 [.sl 4 (toksV l), .int .i64 i] [] [.agg zeroR.v, .int .i64 0, .int .i64 1] [] := by
  refine good_of hP Tryz.func53 (by kernel_rfl) (lv := [0, 1, 4, 5, 6, 7, 8, 16, 36, 39]) (js := []) ⟨rfl, rfl, rfl, rfl, rfl, rfl, _, rfl, ?_⟩
  conv => whnf
  refine call0 ((begin_good l i hl).2 hi) ?_
  conv => whnf
  exact fin0 rfl trivial
theorem parseR_good (s : Bs) (hs : s.length ≤ 20000) : Good Tryz.prog 54 [.str s] [] [.agg (parseR s).1.v, .int .i64 (parseR s).2] [] := by
  refine good_of hP Tryz.func54 (by kernel_rfl) (lv := [0, 2, 3, 4, 6, 7, 8, 16, 32]) (js := []) ⟨rfl, rfl, rfl, rfl, rfl, rfl, _, rfl, ?_⟩
  have hb := tokB_R s hs
  unfold parseR
  conv => whnf
  refine call0 (tokens_good s hs) ?_
  by_cases he : errR s = 0
  · rw [he, if_pos rfl]
    generalize posR s = z1
    generalize toksR s = l at *
    dsimp only
    conv => whnf
    refine call0 (readR_good l 0 hb (Nat.zero_le _)) ?_
    generalize readR l 0 = x
    conv => whnf
    refine branch_of (fun h => ?_) (fun h => ?_)
    · rw [Bool.not_eq_true'] at h
      have h := of_decide_eq_false h
      rw [if_neg (fun q => h q.1)]
      conv => whnf
      exact fin0 rfl trivial
    rw [Bool.not_eq_false'] at h
    have h := of_decide_eq_true h
    conv => whnf
    refine branch_of (fun h2 => ?_) (fun h2 => ?_)
    · have h2 := of_decide_eq_true h2
      rw [List.length_map] at h2
      rw [if_neg (fun q => q.2 (by omega))]
      conv => whnf
      exact fin0 rfl trivial
    · have h2 := of_decide_eq_false h2
      rw [List.length_map] at h2
      rw [if_pos ⟨h, by omega⟩]
      conv => whnf
      exact fin0 rfl trivial
  · rw [if_neg he]
    generalize posR s = z1
    conv => whnf
    refine branch_of (fun h => ?_) (fun h => ?_)
    · conv => whnf
      exact fin0 rfl trivial
    · exact absurd (of_decide_eq_true (by simpa using h)) he
end Go.PV
namespace Go.PV
open Go Go.Proofs
set_option maxRecDepth 100000
def condH (c : Cnd) : Bool := atmH c.a || (opsH c.l || opsH c.r)
def actH (x : Act) : Bool := (decide (200 < x.n.length) || decide (20 < x.a.length)) || x.a.any opsH
def rulH (r : Rul) : Bool := (decide (200 < r.n.length) || (decide (20 < r.c.length) || decide (20 < r.a.length))) || (r.c.any condH || r.a.any actH)
theorem heavyC_good (c : Cnd) : Good Tryz.prog 105 [.agg c.c] [] [.bool (condH c)] [] := by
  obtain ⟨k, a, h, l, r⟩ := c
  refine good_of hP Tryz.func105 (by kernel_rfl) (lv := [0, 1, 2]) (js := []) ⟨rfl, rfl, rfl, rfl, rfl, rfl, _, rfl, ?_⟩
  unfold condH
  dsimp only
  conv => whnf
  refine call0 (heavyA_good a) ?_
  cases atmH a with
  | true =>
    conv => whnf
    exact fin0 rfl trivial
  | false =>
  rw [Bool.false_or]
  conv => whnf
  refine call0 (heavyX_good l) ?_
  cases opsH l with
  | true =>
    conv => whnf
    exact fin0 rfl trivial
  | false =>
  rw [Bool.false_or]
  conv => whnf
  refine call0 (heavyX_good r) ?_
  conv => whnf
  exact fin0 rfl trivial
theorem heavyR_good (r : Rul) : Good Tryz.prog 50 [.agg r.v] [] [.bool (rulH r)] [] := by
  obtain ⟨n, p, c, a⟩ := r
  refine good_of hP Tryz.func50 (by kernel_rfl) (lv := [0, 1, 2, 3, 4, 5, 21, 26, 34, 39, 59, 68, 80]) (js := []) ⟨rfl, rfl, rfl, rfl, rfl, rfl, _, rfl, ?_⟩
  have e0 : rulH ⟨n, p, c, a⟩ = ((decide (200 < n.length) || (decide (20 < c.length) || decide (20 < a.length))) || (c.any condH || a.any actH)) := rfl
  conv => whnf
  refine branch_of (fun h1 => ?_) (fun h1 => ?_)
  · have h1 := of_decide_eq_true h1
    have e : rulH ⟨n, p, c, a⟩ = true := by rw [e0, decide_eq_true (by dsimp only at h1; omega)]; rfl
    rw [e]
    conv => whnf
    exact fin0 rfl trivial
  have h1 := of_decide_eq_false h1
  conv => whnf
  refine branch_of (fun h2 => ?_) (fun h2 => ?_)
  · have h2 := of_decide_eq_true h2
    rw [List.length_map] at h2
    have e : rulH ⟨n, p, c, a⟩ = true := by rw [e0, show decide (20 < c.length) = true from decide_eq_true (by dsimp only at h2; omega)]; simp
    rw [e]
    conv => whnf
    exact fin0 rfl trivial
  have h2 := of_decide_eq_false h2
  rw [List.length_map] at h2
  conv => whnf
  refine branch_of (fun h3 => ?_) (fun h3 => ?_)
  · have h3 := of_decide_eq_true h3
    rw [List.length_map] at h3
    have e : rulH ⟨n, p, c, a⟩ = true := by rw [e0, show decide (20 < a.length) = true from decide_eq_true (by dsimp only at h3; omega)]; simp
    rw [e]
    conv => whnf
    exact fin0 rfl trivial
  have h3 := of_decide_eq_false h3
  rw [List.length_map] at h3
  dsimp only at h1 h2 h3
  have e1 : rulH ⟨n, p, c, a⟩ = (c.any condH || a.any actH) := by
    rw [e0, decide_eq_false (by omega : ¬ 200 < n.length), decide_eq_false (by omega : ¬ 20 < c.length), decide_eq_false (by omega : ¬ 20 < a.length)]; rfl
  rw [e1]
  conv => whnf
  refine loop_of hP [0, 1, 2, 3, 4, 5, 21, 26, 34, 39, 59, 68, 80] [] [1, 2, 3] [65] [] (fun m st => ∃ k : Nat, m = c.length - k ∧ k ≤ c.length ∧ c.any condH = (c.drop k).any condH ∧ st = ⟨[(1, .ptr 65 0 0), (2, .bool false), (3, .int .i64 k)], [(65, .box 0 (Rul.v ⟨n, p, c, a⟩))]⟩) c.length ?_ ?_
  · conv => whnf
    exact ⟨0, rfl, Nat.zero_le _, rfl, rfl⟩
  · rintro m st ⟨k, rfl, hk, he, rfl⟩
    conv => whnf
    refine branch_of (fun h => ?_) (fun h => ?_)
    · have h := of_decide_eq_true h
      rw [List.length_map] at h
      have hk' : k < c.length := by dsimp only at h; omega
      rw [anyL_step hk'] at he
      conv => whnf
      refine ⟨Cnd.c c[k], idxM hk' rfl, ?_⟩
      conv => whnf
      refine call0 (heavyC_good c[k]) ?_
      cases hc : condH c[k] with
      | true =>
        rw [hc, Bool.true_or] at he
        rw [he]
        conv => whnf
        exact fin0 rfl trivial
      | false =>
        rw [hc, Bool.false_or] at he
        conv => whnf
        refine ⟨c.length - (k + 1), by omega, k + 1, rfl, by omega, he, ?_⟩
        rw [wr (by omega) (by omega)]; rfl
    · have h := of_decide_eq_false h
      rw [List.length_map] at h
      have hd : c.drop k = [] := List.drop_eq_nil_iff.2 (by dsimp only at h; omega)
      rw [hd] at he
      rw [he, show ([] : List Cnd).any condH = false from rfl, Bool.false_or]
      conv => whnf
      refine loop_of hP [0, 1, 2, 3, 4, 5, 21, 26, 34, 39, 59, 68, 80] [] [1, 2, 4] [65] [] (fun m st => ∃ k : Nat, m = a.length - k ∧ k ≤ a.length ∧ a.any actH = (a.drop k).any actH ∧ st = ⟨[(1, .ptr 65 0 0), (2, .bool false), (4, .int .i64 k)], [(65, .box 0 (Rul.v ⟨n, p, c, a⟩))]⟩) a.length ?_ ?_
      · conv => whnf
        exact ⟨0, rfl, Nat.zero_le _, rfl, rfl⟩
      · rintro m st ⟨j, rfl, hj, hf, rfl⟩
        conv => whnf
        refine branch_of (fun g => ?_) (fun g => ?_)
        · have g := of_decide_eq_true g
          rw [List.length_map] at g
          have hj' : j < a.length := by dsimp only at g; omega
          rw [anyL_step hj'] at hf
          have e2 : actH a[j] = ((decide (200 < a[j].n.length) || decide (20 < a[j].a.length)) || a[j].a.any opsH) := rfl
          conv => whnf
          refine ⟨Act.c a[j], idxM hj' rfl, ?_⟩
          conv => whnf
          refine branch_of (fun g1 => ?_) (fun g1 => ?_)
          · have g1 := of_decide_eq_true g1
            have e : actH a[j] = true := by rw [e2, show decide (200 < a[j].n.length) = true from decide_eq_true (by omega)]; simp
            rw [e, Bool.true_or] at hf
            rw [hf]
            conv => whnf
            exact fin0 rfl trivial
          have g1 := of_decide_eq_false g1
          conv => whnf
          refine ⟨Act.c a[j], idxM hj' rfl, ?_⟩
          conv => whnf
          refine branch_of (fun g2 => ?_) (fun g2 => ?_)
          · have g2 := of_decide_eq_true g2
            rw [List.length_map] at g2
            have e : actH a[j] = true := by rw [e2, show decide (20 < a[j].a.length) = true from decide_eq_true (by omega)]; simp
            rw [e, Bool.true_or] at hf
            rw [hf]
            conv => whnf
            exact fin0 rfl trivial
          have g2 := of_decide_eq_false g2
          rw [List.length_map] at g2
          have e3 : actH a[j] = a[j].a.any opsH := by
            rw [e2, show decide (200 < a[j].n.length) = false from decide_eq_false (by omega), show decide (20 < a[j].a.length) = false from decide_eq_false (by omega)]; rfl
          rw [e3] at hf
          conv => whnf
          refine loop_of hP [0, 1, 2, 3, 4, 5, 21, 26, 34, 39, 59, 68, 80] [] [1, 2, 4, 5] [65] [] (fun m st => ∃ i : Nat, m = a[j].a.length - i ∧ i ≤ a[j].a.length ∧ a[j].a.any opsH = (a[j].a.drop i).any opsH ∧ st = ⟨[(1, .ptr 65 0 0), (2, .bool false), (4, .int .i64 j), (5, .int .i64 i)], [(65, .box 0 (Rul.v ⟨n, p, c, a⟩))]⟩) a[j].a.length ?_ ?_
          · conv => whnf
            exact ⟨0, rfl, Nat.zero_le _, rfl, rfl⟩
          · rintro m st ⟨i, rfl, hi, hz, rfl⟩
            conv => whnf
            refine ⟨Act.c a[j], idxM hj' rfl, ?_⟩
            conv => whnf
            refine branch_of (fun q => ?_) (fun q => ?_)
            · have q := of_decide_eq_true q
              rw [List.length_map] at q
              have hi' : i < a[j].a.length := by omega
              rw [anyL_step hi'] at hz
              conv => whnf
              refine ⟨Act.c a[j], idxM hj' rfl, ?_⟩
              conv => whnf
              refine ⟨[.sl 5 (stpV a[j].a[i])], idxM (f := fun x : List Stp => [V.sl 5 (stpV x)]) hi' rfl, ?_⟩
              conv => whnf
              refine call0 (heavyX_good a[j].a[i]) ?_
              cases ho : opsH a[j].a[i] with
              | true =>
                rw [ho, Bool.true_or] at hz
                rw [hz, Bool.true_or] at hf
                rw [hf]
                conv => whnf
                exact fin0 rfl trivial
              | false =>
                rw [ho, Bool.false_or] at hz
                conv => whnf
                refine ⟨a[j].a.length - (i + 1), by omega, i + 1, rfl, by omega, hz, ?_⟩
                rw [wr (by omega) (by omega)]; rfl
            · have q := of_decide_eq_false q
              rw [List.length_map] at q
              have hd : a[j].a.drop i = [] := List.drop_eq_nil_iff.2 (by omega)
              rw [hd] at hz
              rw [hz, show ([] : List (List Stp)).any opsH = false from rfl, Bool.false_or] at hf
              conv => whnf
              refine ⟨a.length - (j + 1), by omega, j + 1, rfl, by omega, hf, ?_⟩
              rw [wr (by omega) (by omega)]; rfl
        · have g := of_decide_eq_false g
          rw [List.length_map] at g
          have hd : a.drop j = [] := List.drop_eq_nil_iff.2 (by dsimp only at g; omega)
          rw [hd] at hf
          rw [hf]
          conv => whnf
          exact fin0 rfl trivial
theorem rulH_B {r : Rul} (h : rulH r = false) : rulB r := by
  unfold rulH at h
  simp only [Bool.or_eq_false_iff, decide_eq_false_iff_not, List.any_eq_false] at h
  obtain ⟨⟨h1, h2, h3⟩, h4, h5⟩ := h
  have cb : ∀ c : Cnd, condH c = false → cndB c := fun c hc => by
    unfold condH at hc
    simp only [Bool.or_eq_false_iff] at hc
    obtain ⟨q1, q2, q3⟩ := hc
    unfold atmH trmH at q1
    unfold opsH stpH at q2 q3
    simp at q1 q2 q3
    exact ⟨by omega, by omega, fun t ht => by have := q1.2 t ht; exact ⟨by omega, by omega⟩, by omega, fun o ho => by have := q2.2 o ho; exact ⟨by omega, by omega⟩, by omega, fun o ho => by have := q3.2 o ho; exact ⟨by omega, by omega⟩⟩
  have ab : ∀ x : Act, actH x = false → actB x := fun x hx => by
    unfold actH at hx
    simp only [Bool.or_eq_false_iff, decide_eq_false_iff_not, List.any_eq_false] at hx
    obtain ⟨⟨q1, q2⟩, q3⟩ := hx
    refine ⟨by omega, by omega, fun l hl => ?_⟩
    have := q3 l hl
    unfold opsH stpH at this
    simp at this
    exact ⟨by omega, fun o ho => by have := this.2 o ho; exact ⟨by omega, by omega⟩⟩
  exact ⟨by omega, by omega, fun c hc => cb c (by simpa using h4 c hc), by omega, fun x hx => ab x (by simpa using h5 x hx)⟩
theorem rR_B : rulB rR := Rd.rule_s (rd0 (toksR rW) 0) |> fun h => by
  have e : (rd0 (toksR rW) 0).rule.1 = rR := by decide +kernel
  rw [e] at h; exact h
theorem wakes11_good : Good Tryz.prog 60 [] [] [.bool true] [] := by
  refine good_of hP Tryz.func60 (by kernel_rfl) (lv := [0, 1, 2, 3, 4, 5, 7]) (js := []) ⟨rfl, rfl, rfl, rfl, rfl, rfl, _, rfl, ?_⟩
  conv => whnf
  refine call0 (parseR_good rW (by decide)) ?_
  rw [rW_p]
  conv => whnf
  refine call0 (rtext_good rR rR_B) ?_
  rw [rR_t.1, rR_t.2]
  conv => whnf
  refine call0 (parseR_good rB (by decide)) ?_
  rw [rB_p]
  generalize (parseR rB).1 = z
  conv => whnf
  refine call0 (rcheck_good zeroR ⟨Nat.zero_le _, Nat.zero_le _, fun c hc => absurd hc List.not_mem_nil, Nat.zero_le _, fun c hc => absurd hc List.not_mem_nil⟩) ?_
  conv => whnf
  exact fin0 rfl trivial
end Go.PV
namespace Go.PV
open Go Go.Proofs
set_option maxRecDepth 100000
theorem keepCond_good (x y : Cnd) (hx : cndB x) : Good Tryz.prog 182 [.agg x.c, .agg y.c] [] [.bool (decide (x = y))] [] := by
  obtain ⟨k, a, h, l, r⟩ := x
  obtain ⟨k2, a2, h2, l2, r2⟩ := y
  obtain ⟨b1, b2, b3, b4, b5, b6, b7⟩ := hx
  dsimp only at b1 b2 b3 b4 b5 b6 b7
  have e : decide ((⟨k, a, h, l, r⟩ : Cnd) = ⟨k2, a2, h2, l2, r2⟩) = (decide (k = k2) && (decide (a = a2) && (decide (h = h2) && (decide (l = l2) && decide (r = r2))))) := by
    rw [Bool.eq_iff_iff]; simp
  rw [e]
  refine good_of hP Tryz.func182 (by kernel_rfl) (lv := [0, 1, 2, 3, 4]) (js := []) ⟨rfl, rfl, rfl, rfl, rfl, rfl, _, rfl, ?_⟩
  conv => whnf
  cases decide (k = k2) with
  | false =>
    conv => whnf
    exact fin0 rfl trivial
  | true =>
  rw [Bool.true_and]
  conv => whnf
  refine call0 (keepAtom_good a a2 b2) ?_
  cases decide (a = a2) with
  | false =>
    conv => whnf
    exact fin0 rfl trivial
  | true =>
  rw [Bool.true_and]
  conv => whnf
  cases decide (h = h2) with
  | false =>
    conv => whnf
    exact fin0 rfl trivial
  | true =>
  rw [Bool.true_and]
  conv => whnf
  refine call0 (keepOps_good l l2 b4) ?_
  cases decide (l = l2) with
  | false =>
    conv => whnf
    exact fin0 rfl trivial
  | true =>
  rw [Bool.true_and]
  conv => whnf
  refine call0 (keepOps_good r r2 b6) ?_
  conv => whnf
  exact fin0 rfl trivial
theorem keepConds_good (a b : List Cnd) (ha : a.length ≤ 1000000) (hb : ∀ c ∈ a, cndB c) : Good Tryz.prog 115 [.sl 6 (cndV a), .sl 6 (cndV b)] [] [.bool (decide (a = b))] [] := by
  refine good_of hP Tryz.func115 (by kernel_rfl) (lv := [0, 1, 4, 5, 10, 14, 26]) (js := []) ⟨rfl, rfl, rfl, rfl, rfl, rfl, _, rfl, ?_⟩
  conv => whnf
  refine branch_of (fun h => ?_) (fun h => ?_)
  · rw [Bool.not_eq_true'] at h
    have h := of_decide_eq_false h
    rw [List.length_map, List.length_map] at h
    have e : decide (a = b) = false := decide_eq_false (by rintro rfl; exact h rfl)
    rw [e]
    conv => whnf
    exact fin0 rfl trivial
  rw [Bool.not_eq_false'] at h
  have h := of_decide_eq_true h
  rw [List.length_map, List.length_map] at h
  have hl : a.length = b.length := by omega
  conv => whnf
  refine loop_of hP [0, 1, 4, 5, 10, 14, 26] [] [0, 1, 4, 5] [] [] (fun n st => ∃ k : Nat, n = a.length - k ∧ k ≤ a.length ∧ (∀ j (h1 : j < a.length) (h2 : j < b.length), j < k → a[j] = b[j]) ∧ st = ⟨[(0, .sl 6 (cndV a)), (1, .sl 6 (cndV b)), (4, .bool false), (5, .int .i64 k)], []⟩) a.length ?_ ?_
  · conv => whnf
    exact ⟨0, rfl, Nat.zero_le _, fun j _ _ h => by omega, rfl⟩
  · rintro n st ⟨k, rfl, hk, hn, rfl⟩
    conv => whnf
    refine branch_of (fun h => ?_) (fun h => ?_)
    · have h := of_decide_eq_true h
      rw [List.length_map] at h
      have hk' : k < a.length := by omega
      have hk2 : k < b.length := by omega
      conv => whnf
      refine ⟨Cnd.c a[k], idxM hk' rfl, ?_⟩
      conv => whnf
      refine ⟨Cnd.c b[k], idxM hk2 rfl, ?_⟩
      conv => whnf
      refine call0 (keepCond_good a[k] b[k] (hb _ (List.getElem_mem hk'))) ?_
      cases hq : decide (a[k] = b[k]) with
      | false =>
        have hq := of_decide_eq_false hq
        have e : decide (a = b) = false := decide_eq_false (by rintro rfl; exact hq rfl)
        rw [e]
        conv => whnf
        refine ⟨by kernel_rfl, ?_⟩
        conv => whnf
        exact fin0 rfl trivial
      | true =>
        have hq := of_decide_eq_true hq
        conv => whnf
        refine ⟨by kernel_rfl, ?_⟩
        conv => whnf
        refine ⟨a.length - (k + 1), by omega, k + 1, rfl, by omega, fun j h1 h3 hj => ?_, ?_⟩
        · by_cases e : j = k
          · subst e; exact hq
          · exact hn j h1 h3 (by omega)
        · rw [wr (by omega) (by omega)]; rfl
    · have h := of_decide_eq_false h
      rw [List.length_map] at h
      have e : decide (a = b) = true := decide_eq_true (List.ext_getElem hl fun j h1 h2 => hn j h1 h2 (by omega))
      rw [e]
      conv => whnf
      exact fin0 rfl trivial
theorem keepAct_good (x y : Act) (hx : actB x) : Good Tryz.prog 116 [.agg x.c, .agg y.c] [] [.bool (decide (x = y))] [] := by
  obtain ⟨k, n, a, w⟩ := x
  obtain ⟨k2, n2, b, w2⟩ := y
  obtain ⟨b1, b2, b3⟩ := hx
  dsimp only at b1 b2 b3
  have e : decide ((⟨k, n, a, w⟩ : Act) = ⟨k2, n2, b, w2⟩) = (decide (k = k2) && (decide (n = n2) && (decide (w = w2) && decide (a = b)))) := by
    rw [Bool.eq_iff_iff]; simp; intro _ _; exact and_comm
  rw [e]
  refine good_of hP Tryz.func116 (by kernel_rfl) (lv := [0, 1, 2, 3, 4, 5, 33, 38, 52]) (js := []) ⟨rfl, rfl, rfl, rfl, rfl, rfl, _, rfl, ?_⟩
  conv => whnf
  cases decide (k = k2) with
  | false =>
    conv => whnf
    exact fin0 rfl trivial
  | true =>
  rw [Bool.true_and]
  conv => whnf
  cases decide (n = n2) with
  | false =>
    conv => whnf
    exact fin0 rfl trivial
  | true =>
  rw [Bool.true_and]
  conv => whnf
  cases decide (w = w2) with
  | false =>
    conv => whnf
    exact fin0 rfl trivial
  | true =>
  rw [Bool.true_and]
  conv => whnf
  refine branch_of (fun h => ?_) (fun h => ?_)
  · rw [Bool.not_eq_true'] at h
    have h := of_decide_eq_false h
    rw [List.length_map, List.length_map] at h
    have e : decide (a = b) = false := decide_eq_false (by rintro rfl; exact h rfl)
    rw [e]
    conv => whnf
    exact fin0 rfl trivial
  rw [Bool.not_eq_false'] at h
  have h := of_decide_eq_true h
  rw [List.length_map, List.length_map] at h
  have hl : a.length = b.length := by dsimp only at h; omega
  conv => whnf
  refine loop_of hP [0, 1, 2, 3, 4, 5, 33, 38, 52] [] [2, 3, 4, 5] [66, 67] [] (fun m st => ∃ i : Nat, m = a.length - i ∧ i ≤ a.length ∧ (∀ j (h1 : j < a.length) (h2 : j < b.length), j < i → a[j] = b[j]) ∧ st = ⟨[(2, .ptr 66 0 0), (3, .ptr 67 0 0), (4, .bool false), (5, .int .i64 i)], [(66, .box 0 (Act.c ⟨k, n, a, w⟩)), (67, .box 0 (Act.c ⟨k2, n2, b, w2⟩))]⟩) a.length ?_ ?_
  · conv => whnf
    exact ⟨0, rfl, Nat.zero_le _, fun j _ _ h => by omega, rfl⟩
  · rintro m st ⟨i, rfl, hi, hn, rfl⟩
    conv => whnf
    refine branch_of (fun h => ?_) (fun h => ?_)
    · have h := of_decide_eq_true h
      rw [List.length_map] at h
      have hk' : i < a.length := by dsimp only at h; omega
      have hk2 : i < b.length := by omega
      conv => whnf
      refine ⟨[.sl 5 (stpV a[i])], idxM (f := fun x : List Stp => [V.sl 5 (stpV x)]) hk' rfl, ?_⟩
      conv => whnf
      refine ⟨[.sl 5 (stpV b[i])], idxM (f := fun x : List Stp => [V.sl 5 (stpV x)]) hk2 rfl, ?_⟩
      conv => whnf
      refine call0 (keepOps_good a[i] b[i] (b3 _ (List.getElem_mem hk')).1) ?_
      cases hq : decide (a[i] = b[i]) with
      | false =>
        have hq := of_decide_eq_false hq
        have e : decide (a = b) = false := decide_eq_false (by rintro rfl; exact hq rfl)
        rw [e]
        conv => whnf
        refine ⟨by kernel_rfl, ?_⟩
        conv => whnf
        exact fin0 rfl trivial
      | true =>
        have hq := of_decide_eq_true hq
        conv => whnf
        refine ⟨by kernel_rfl, ?_⟩
        conv => whnf
        refine ⟨a.length - (i + 1), by omega, i + 1, rfl, by omega, fun j h1 h3 hj => ?_, ?_⟩
        · by_cases e : j = i
          · subst e; exact hq
          · exact hn j h1 h3 (by omega)
        · rw [wr (by omega) (by omega)]; rfl
    · have h := of_decide_eq_false h
      rw [List.length_map] at h
      dsimp only at h
      have e : decide (a = b) = true := decide_eq_true (List.ext_getElem hl fun j h1 h2 => hn j h1 h2 (by omega))
      rw [e]
      conv => whnf
      exact fin0 rfl trivial
theorem keepRule_good (x y : Rul) (hx : rulB x) : Good Tryz.prog 57 [.agg x.v, .agg y.v] [] [.bool (decide (x = y))] [] := by
  obtain ⟨n, p, c, a⟩ := x
  obtain ⟨n2, p2, c2, b⟩ := y
  obtain ⟨b1, b2, b3, b4, b5⟩ := hx
  dsimp only at b1 b2 b3 b4 b5
  have e : decide ((⟨n, p, c, a⟩ : Rul) = ⟨n2, p2, c2, b⟩) = (decide (n = n2) && (decide (p = p2) && (decide (c = c2) && decide (a = b)))) := by
    rw [Bool.eq_iff_iff]; simp
  rw [e]
  refine good_of hP Tryz.func57 (by kernel_rfl) (lv := [0, 1, 2, 3, 4, 5, 34, 39, 53]) (js := []) ⟨rfl, rfl, rfl, rfl, rfl, rfl, _, rfl, ?_⟩
  conv => whnf
  cases decide (n = n2) with
  | false =>
    conv => whnf
    exact fin0 rfl trivial
  | true =>
  rw [Bool.true_and]
  conv => whnf
  cases decide (p = p2) with
  | false =>
    conv => whnf
    exact fin0 rfl trivial
  | true =>
  rw [Bool.true_and]
  conv => whnf
  refine call0 (keepConds_good c c2 b2 b3) ?_
  cases decide (c = c2) with
  | false =>
    conv => whnf
    exact fin0 rfl trivial
  | true =>
  rw [Bool.true_and]
  conv => whnf
  refine branch_of (fun h => ?_) (fun h => ?_)
  · rw [Bool.not_eq_true'] at h
    have h := of_decide_eq_false h
    rw [List.length_map, List.length_map] at h
    have e : decide (a = b) = false := decide_eq_false (by rintro rfl; exact h rfl)
    rw [e]
    conv => whnf
    exact fin0 rfl trivial
  rw [Bool.not_eq_false'] at h
  have h := of_decide_eq_true h
  rw [List.length_map, List.length_map] at h
  have hl : a.length = b.length := by dsimp only at h; omega
  conv => whnf
  refine loop_of hP [0, 1, 2, 3, 4, 5, 34, 39, 53] [] [2, 3, 4, 5] [66, 67] [] (fun m st => ∃ i : Nat, m = a.length - i ∧ i ≤ a.length ∧ (∀ j (h1 : j < a.length) (h2 : j < b.length), j < i → a[j] = b[j]) ∧ st = ⟨[(2, .ptr 66 0 0), (3, .ptr 67 0 0), (4, .bool false), (5, .int .i64 i)], [(66, .box 0 (Rul.v ⟨n, p, c, a⟩)), (67, .box 0 (Rul.v ⟨n2, p2, c2, b⟩))]⟩) a.length ?_ ?_
  · conv => whnf
    exact ⟨0, rfl, Nat.zero_le _, fun j _ _ h => by omega, rfl⟩
  · rintro m st ⟨i, rfl, hi, hn, rfl⟩
    conv => whnf
    refine branch_of (fun h => ?_) (fun h => ?_)
    · have h := of_decide_eq_true h
      rw [List.length_map] at h
      have hk' : i < a.length := by dsimp only at h; omega
      have hk2 : i < b.length := by omega
      conv => whnf
      refine ⟨Act.c a[i], idxM hk' rfl, ?_⟩
      conv => whnf
      refine ⟨Act.c b[i], idxM hk2 rfl, ?_⟩
      conv => whnf
      refine call0 (keepAct_good a[i] b[i] (b5 _ (List.getElem_mem hk'))) ?_
      cases hq : decide (a[i] = b[i]) with
      | false =>
        have hq := of_decide_eq_false hq
        have e : decide (a = b) = false := decide_eq_false (by rintro rfl; exact hq rfl)
        rw [e]
        conv => whnf
        refine ⟨by kernel_rfl, ?_⟩
        conv => whnf
        exact fin0 rfl trivial
      | true =>
        have hq := of_decide_eq_true hq
        conv => whnf
        refine ⟨by kernel_rfl, ?_⟩
        conv => whnf
        refine ⟨a.length - (i + 1), by omega, i + 1, rfl, by omega, fun j h1 h3 hj => ?_, ?_⟩
        · by_cases e : j = i
          · subst e; exact hq
          · exact hn j h1 h3 (by omega)
        · rw [wr (by omega) (by omega)]; rfl
    · have h := of_decide_eq_false h
      rw [List.length_map] at h
      dsimp only at h
      have e : decide (a = b) = true := decide_eq_true (List.ext_getElem hl fun j h1 h2 => hn j h1 h2 (by omega))
      rw [e]
      conv => whnf
      exact fin0 rfl trivial
end Go.PV
namespace Go.PV
open Go Go.Proofs
set_option maxRecDepth 100000
theorem qguard_good (c : Cnd) (hb : cndB c) : Good Tryz.prog 184 [.agg c.c] [] [.bool (guardOk c)] [] := by
  obtain ⟨k, ⟨n, a⟩, h, l, r⟩ := c
  obtain ⟨b1, b2, b3, b4, b5, b6, b7⟩ := hb
  dsimp only at b1 b2 b3 b4 b5 b6 b7
  refine good_of hP Tryz.func184 (by kernel_rfl) (lv := [0, 1, 2]) (js := []) ⟨rfl, rfl, rfl, rfl, rfl, rfl, _, rfl, ?_⟩
  unfold guardOk
  dsimp only
  have en : (decide (n = []) && (decide (a = []) && (decide (1 ≤ h ∧ h ≤ 4) && (exprOk l && exprOk r)))) = (decide (IntKind.i64.wrap (((n.length : Nat) : Int) + ((trmV a).length : Nat)) = 0) && (decide (1 ≤ h ∧ h ≤ 4) && (exprOk l && exprOk r))) := by
    rw [← Bool.and_assoc]
    congr 1
    rw [List.length_map, wr (by omega) (by omega), Bool.eq_iff_iff]
    simp only [Bool.and_eq_true, decide_eq_true_eq]
    constructor
    · rintro ⟨rfl, rfl⟩; rfl
    · intro e
      exact ⟨List.eq_nil_of_length_eq_zero (by omega), List.eq_nil_of_length_eq_zero (by omega)⟩
  rw [en]
  conv => whnf
  cases decide (k = 3) with
  | false =>
    conv => whnf
    exact fin0 rfl trivial
  | true =>
  rw [Bool.true_and]
  conv => whnf
  cases decide (IntKind.i64.wrap (((n.length : Nat) : Int) + ((trmV a).length : Nat)) = 0) with
  | false =>
    conv => whnf
    exact fin0 rfl trivial
  | true =>
  rw [Bool.true_and]
  conv => whnf
  refine call0 (in_good h 1 4) ?_
  cases decide (1 ≤ h ∧ h ≤ 4) with
  | false =>
    conv => whnf
    exact fin0 rfl trivial
  | true =>
  rw [Bool.true_and]
  conv => whnf
  refine call0 (refExpr_good l ⟨b4, b5⟩) ?_
  cases exprOk l with
  | false =>
    conv => whnf
    exact fin0 rfl trivial
  | true =>
  rw [Bool.true_and]
  conv => whnf
  refine call0 (refExpr_good r ⟨b6, b7⟩) ?_
  conv => whnf
  exact fin0 rfl trivial
theorem qcond_good (c : Cnd) (hb : cndB c) : Good Tryz.prog 117 [.agg c.c] [] [.bool (condOk c)] [] := by
  have hg := qguard_good c hb
  have hcg : ¬ (c.k = 1 ∨ c.k = 2) → condOk c = guardOk c := fun h => by
    unfold condOk
    by_cases hk : c.k = 3
    · rw [if_pos hk]
    · rw [if_neg hk]
      unfold guardOk
      rw [show decide (c.k = 3) = false from decide_eq_false hk, show decide (c.k = 1 ∨ c.k = 2) = false from decide_eq_false h]; rfl
  have hca : (c.k = 1 ∨ c.k = 2) → condOk c = (atomOk c.a && (decide (c.h = 0) && decide (IntKind.i64.wrap (((stpV c.l).length : Int) + ((stpV c.r).length : Nat)) = 0))) := fun h => by
    unfold condOk
    rw [if_neg (by omega), show decide (c.k = 1 ∨ c.k = 2) = true from decide_eq_true h, Bool.true_and, Bool.and_comm]
    congr 2
    obtain ⟨b1, b2, b3, b4, b5, b6, b7⟩ := hb
    rw [List.length_map, List.length_map, wr (by omega) (by omega), Bool.eq_iff_iff]
    simp only [Bool.and_eq_true, decide_eq_true_eq]
    constructor
    · rintro ⟨e1, e2⟩; rw [e1, e2]; rfl
    · intro e
      exact ⟨List.eq_nil_of_length_eq_zero (by omega), List.eq_nil_of_length_eq_zero (by omega)⟩
  obtain ⟨b1, b2, b3, b4, b5, b6, b7⟩ := hb
  have ha := refAtom_good c.a ⟨b1, b3⟩
  obtain ⟨k, a, h, l, r⟩ := c
  refine good_of hP Tryz.func117 (by kernel_rfl) (lv := [0, 1, 2, 4, 5]) (js := [5]) ⟨rfl, rfl, rfl, rfl, rfl, rfl, _, rfl, ?_⟩
  dsimp only at b1 b2 b3 b4 b5 b6 b7 hcg hca ha
  conv => whnf
  refine seq_of hP [0, 1, 2, 4, 5] [5] [1, 2, 5] [65] [] (fun st => st = ⟨[(1, .ptr 65 0 0), (2, .bool false), (5, .bool (decide (k = 1 ∨ k = 2)))], [(65, .box 0 (Cnd.c ⟨k, a, h, l, r⟩))]⟩) ?_ ?_
  · conv => whnf
    refine branch_of (fun g1 => ?_) (fun g1 => ?_)
    · have h1 : k = 1 := of_decide_eq_true g1
      conv => whnf
      have e : decide (k = 1 ∨ k = 2) = true := by rw [decide_eq_true_iff]; omega
      rw [e, g1]
    · have h1 : ¬ k = 1 := of_decide_eq_false g1
      conv => whnf
      have e : decide (k = 1 ∨ k = 2) = decide (k = 2) := by rw [decide_eq_decide]; omega
      rw [e]
  rintro st rfl
  by_cases hk : k = 1 ∨ k = 2
  · rw [decide_eq_true hk, hca hk]
    conv => whnf
    refine call0 (ha) ?_
    cases atomOk a with
    | false =>
      conv => whnf
      exact fin0 rfl trivial
    | true =>
    rw [Bool.true_and]
    conv => whnf
    cases decide (h = 0) with
    | false =>
      conv => whnf
      exact fin0 rfl trivial
    | true =>
      conv => whnf
      exact fin0 rfl trivial
  · rw [decide_eq_false hk, hcg hk]
    conv => whnf
    refine call0 (hg) ?_
    conv => whnf
    exact fin0 rfl trivial
theorem qhas_good (l : List Cnd) (hl : l.length ≤ 1000000) : Good Tryz.prog 119 [.sl 6 (cndV l)] [] [.int .i64 (hasN l)] [] := by
  refine good_of hP Tryz.func119 (by kernel_rfl) (lv := [0, 2, 3, 4, 8, 16]) (js := []) ⟨rfl, rfl, rfl, rfl, rfl, rfl, _, rfl, ?_⟩
  conv => whnf
  refine loop_of hP [0, 2, 3, 4, 8, 16] [] [0, 2, 3, 4] [] [] (fun m st => ∃ k : Nat, m = l.length - k ∧ k ≤ l.length ∧ st = ⟨[(0, .sl 6 (cndV l)), (2, .int .i64 0), (3, .int .i64 (hasN (l.take k))), (4, .int .i64 k)], []⟩) l.length ?_ ?_
  · conv => whnf
    exact ⟨0, rfl, Nat.zero_le _, rfl⟩
  · rintro m st ⟨k, rfl, hk, rfl⟩
    conv => whnf
    refine branch_of (fun h => ?_) (fun h => ?_)
    · have h := of_decide_eq_true h
      rw [List.length_map] at h
      have hk' : k < l.length := by omega
      have hht := hasN_take l hk'
      have hhl := hasN_le (l.take k)
      rw [List.length_take] at hhl
      conv => whnf
      refine ⟨Cnd.c l[k], idxM hk' rfl, ?_⟩
      conv => whnf
      refine branch_of (fun g => ?_) (fun g => ?_)
      · have g : l[k].k = 1 := of_decide_eq_true g
        rw [if_pos g] at hht
        conv => whnf
        refine ⟨l.length - (k + 1), by omega, k + 1, rfl, by omega, ?_⟩
        rw [hht, wr (by omega) (by omega), wr (by omega) (by omega)]; rfl
      · have g : ¬ l[k].k = 1 := of_decide_eq_false g
        rw [if_neg g, Nat.add_zero] at hht
        conv => whnf
        refine ⟨l.length - (k + 1), by omega, k + 1, rfl, by omega, ?_⟩
        rw [hht, wr (by omega) (by omega)]; rfl
    · have h := of_decide_eq_false h
      rw [List.length_map] at h
      rw [List.take_of_length_le (by omega)]
      conv => whnf
      exact fin0 rfl trivial
theorem qrule_good (r : Rul) (hb : rulB r) : Good Tryz.prog 58 [.agg r.v] [] [.bool (ruleOk r)] [] := by
  obtain ⟨n, p, c, a⟩ := r
  obtain ⟨b1, b2, b3, b4, b5⟩ := hb
  dsimp only at b1 b2 b3 b4 b5
  refine good_of hP Tryz.func58 (by kernel_rfl) (lv := [0, 1, 2, 3, 4, 5, 6, 38, 43, 52, 57, 66, 67, 83, 88, 97, 98, 117]) (js := []) ⟨rfl, rfl, rfl, rfl, rfl, rfl, _, rfl, ?_⟩
  have e0 : ruleOk ⟨n, p, c, a⟩ = (nameS n && (decide (-1000 ≤ p ∧ p ≤ 1000) && (decide ((1 : Int) ≤ ((cndV c).length : Nat) ∧ (((cndV c).length : Nat) : Int) ≤ 6) && (decide (headK c = 1) && (decide ((1 : Int) ≤ ((actV a).length : Nat) ∧ (((actV a).length : Nat) : Int) ≤ 6) && (c.all condOk && a.all (actOk (hasN c)))))))) := by
    have e1 : decide ((1 : Int) ≤ ((cndV c).length : Nat) ∧ (((cndV c).length : Nat) : Int) ≤ 6) = decide (1 ≤ c.length ∧ c.length ≤ 6) := by rw [decide_eq_decide, List.length_map]; omega
    have e2 : decide ((1 : Int) ≤ ((actV a).length : Nat) ∧ (((actV a).length : Nat) : Int) ≤ 6) = decide (1 ≤ a.length ∧ a.length ≤ 6) := by rw [decide_eq_decide, List.length_map]; omega
    rw [e1, e2]
    unfold ruleOk
    simp only [Bool.and_assoc]
  rw [e0]
  conv => whnf
  refine call0 (refName_good n b1) ?_
  cases nameS n with
  | false =>
    conv => whnf
    exact fin0 rfl trivial
  | true =>
  rw [Bool.true_and]
  conv => whnf
  refine call0 (in9_good p (-1000) 1000) ?_
  cases decide (-1000 ≤ p ∧ p ≤ 1000) with
  | false =>
    conv => whnf
    exact fin0 rfl trivial
  | true =>
  rw [Bool.true_and]
  conv => whnf
  refine call0 (in9_good (cndV c).length 1 6) ?_
  cases hc6 : decide ((1 : Int) ≤ ((cndV c).length : Nat) ∧ (((cndV c).length : Nat) : Int) ≤ 6) with
  | false =>
    conv => whnf
    exact fin0 rfl trivial
  | true =>
  have hc6 := of_decide_eq_true hc6
  rw [List.length_map] at hc6
  rw [Bool.true_and]
  have h0 : 0 < c.length := by omega
  have eh : headK c = c[0].k := by cases c with
    | nil => simp at h0
    | cons x r => rfl
  rw [eh]
  conv => whnf
  refine ⟨Cnd.c c[0], idxM h0 rfl, ?_⟩
  conv => whnf
  cases hk1 : decide (c[0].k = 1) with
  | false =>
    conv => whnf
    exact fin0 rfl trivial
  | true =>
  rw [Bool.true_and]
  conv => whnf
  refine call0 (in9_good (actV a).length 1 6) ?_
  cases ha6 : decide ((1 : Int) ≤ ((actV a).length : Nat) ∧ (((actV a).length : Nat) : Int) ≤ 6) with
  | false =>
    conv => whnf
    exact fin0 rfl trivial
  | true =>
  have ha6 := of_decide_eq_true ha6
  rw [List.length_map] at ha6
  rw [Bool.true_and]
  conv => whnf
  refine loop_of hP [0, 1, 2, 3, 4, 5, 6, 38, 43, 52, 57, 66, 67, 83, 88, 97, 98, 117] [] [1, 2, 3] [65] [] (fun m st => ∃ k : Nat, m = c.length - k ∧ k ≤ c.length ∧ c.all condOk = (c.drop k).all condOk ∧ st = ⟨[(1, .ptr 65 0 0), (2, .bool false), (3, .int .i64 k)], [(65, .box 0 (Rul.v ⟨n, p, c, a⟩))]⟩) c.length ?_ ?_
  · conv => whnf
    exact ⟨0, rfl, Nat.zero_le _, rfl, rfl⟩
  · rintro m st ⟨k, rfl, hk, he, rfl⟩
    conv => whnf
    refine branch_of (fun h => ?_) (fun h => ?_)
    · have h := of_decide_eq_true h
      rw [List.length_map] at h
      have hk' : k < c.length := by dsimp only at h; omega
      rw [List.drop_eq_getElem_cons hk', List.all_cons] at he
      conv => whnf
      refine ⟨Cnd.c c[k], idxM hk' rfl, ?_⟩
      conv => whnf
      refine call0 (qcond_good c[k] (b3 _ (List.getElem_mem hk'))) ?_
      cases hc : condOk c[k] with
      | false =>
        rw [hc, Bool.false_and] at he
        rw [he]
        conv => whnf
        exact fin0 rfl trivial
      | true =>
        rw [hc, Bool.true_and] at he
        conv => whnf
        refine ⟨c.length - (k + 1), by omega, k + 1, rfl, by omega, he, ?_⟩
        rw [wr (by omega) (by omega)]; rfl
    · have h := of_decide_eq_false h
      rw [List.length_map] at h
      have hd : c.drop k = [] := List.drop_eq_nil_iff.2 (by dsimp only at h; omega)
      rw [hd] at he
      rw [he, show (([] : List Cnd).all condOk) = true from rfl, Bool.true_and]
      have hhn := hasN_le c
      conv => whnf
      refine loop_of hP [0, 1, 2, 3, 4, 5, 6, 38, 43, 52, 57, 66, 67, 83, 88, 97, 98, 117] [] [1, 2, 4] [65] [] (fun m st => ∃ k : Nat, m = a.length - k ∧ k ≤ a.length ∧ a.all (actOk (hasN c)) = (a.drop k).all (actOk (hasN c)) ∧ st = ⟨[(1, .ptr 65 0 0), (2, .bool false), (4, .int .i64 k)], [(65, .box 0 (Rul.v ⟨n, p, c, a⟩))]⟩) a.length ?_ ?_
      · conv => whnf
        exact ⟨0, rfl, Nat.zero_le _, rfl, rfl⟩
      · rintro m st ⟨j, rfl, hj, hf, rfl⟩
        conv => whnf
        refine branch_of (fun g => ?_) (fun g => ?_)
        · have g := of_decide_eq_true g
          rw [List.length_map] at g
          have hj' : j < a.length := by dsimp only at g; omega
          rw [List.drop_eq_getElem_cons hj', List.all_cons] at hf
          obtain ⟨q1, q2, q3⟩ := b5 _ (List.getElem_mem hj')
          conv => whnf
          refine ⟨Act.c a[j], idxM hj' rfl, ?_⟩
          generalize a[j] = x at *
          obtain ⟨xk, xn, xa, xw⟩ := x
          dsimp only at q1 q2 q3
          have next : ∀ (e : actOk (hasN c) ⟨xk, xn, xa, xw⟩ = true), a.all (actOk (hasN c)) = (a.drop (j + 1)).all (actOk (hasN c)) := fun e => by rw [hf, e, Bool.true_and]
          conv => whnf
          refine branch_of (fun g1 => ?_) (fun g1 => ?_)
          · have g1 : xk = 1 := of_decide_eq_true g1
            have eA : actOk (hasN c) ⟨xk, xn, xa, xw⟩ = (nameS xn && (decide (xw = 0) && (decide (xa.length ≤ 5) && xa.all exprOk))) := by unfold actOk; rw [if_pos g1]
            conv => whnf
            refine call0 (refName_good xn q1) ?_
            cases hn : nameS xn with
            | false =>
              rw [hn, Bool.false_and] at eA
              rw [eA, Bool.false_and] at hf
              rw [hf]
              conv => whnf
              exact fin0 rfl trivial
            | true =>
            rw [hn, Bool.true_and] at eA
            conv => whnf
            refine branch_of (fun g2 => ?_) (fun g2 => ?_)
            · have g2 := of_decide_eq_true g2
              rw [List.length_map] at g2
              rw [show decide (xa.length ≤ 5) = false from decide_eq_false (by dsimp only at g2; omega), Bool.false_and, Bool.and_false] at eA
              rw [eA, Bool.false_and] at hf
              rw [hf]
              conv => whnf
              exact fin0 rfl trivial
            have g2 := of_decide_eq_false g2
            rw [List.length_map] at g2
            rw [show decide (xa.length ≤ 5) = true from decide_eq_true (by dsimp only at g2; omega), Bool.true_and] at eA
            conv => whnf
            refine branch_of (fun g3 => ?_) (fun g3 => ?_)
            · have g3 : (!decide (xw = 0)) = true := g3
              rw [Bool.not_eq_true'] at g3
              rw [g3, Bool.false_and] at eA
              rw [eA, Bool.false_and] at hf
              rw [hf]
              conv => whnf
              exact fin0 rfl trivial
            have g3 : (!decide (xw = 0)) = false := g3
            rw [Bool.not_eq_false'] at g3
            rw [g3, Bool.true_and] at eA
            conv => whnf
            refine loop_of hP [0, 1, 2, 3, 4, 5, 6, 38, 43, 52, 57, 66, 67, 83, 88, 97, 98, 117] [] [1, 2, 4, 5, 6] [65, 69] [] (fun m st => ∃ i : Nat, m = xa.length - i ∧ i ≤ xa.length ∧ xa.all exprOk = (xa.drop i).all exprOk ∧ st = ⟨[(1, .ptr 65 0 0), (2, .bool false), (4, .int .i64 j), (5, .ptr 69 0 0), (6, .int .i64 i)], [(65, .box 0 (Rul.v ⟨n, p, c, a⟩)), (69, .box 0 (Act.c ⟨xk, xn, xa, xw⟩))]⟩) xa.length ?_ ?_
            · conv => whnf
              exact ⟨0, rfl, Nat.zero_le _, rfl, rfl⟩
            · rintro m st ⟨i, rfl, hi, hz, rfl⟩
              conv => whnf
              refine branch_of (fun q => ?_) (fun q => ?_)
              · have q := of_decide_eq_true q
                rw [List.length_map] at q
                have hi' : i < xa.length := by dsimp only at q; omega
                rw [List.drop_eq_getElem_cons hi', List.all_cons] at hz
                conv => whnf
                refine ⟨[.sl 5 (stpV xa[i])], idxM (f := fun x : List Stp => [V.sl 5 (stpV x)]) hi' rfl, ?_⟩
                conv => whnf
                refine call0 (refExpr_good xa[i] (q3 _ (List.getElem_mem hi'))) ?_
                cases hx : exprOk xa[i] with
                | false =>
                  rw [hx, Bool.false_and] at hz
                  rw [hz] at eA
                  rw [eA, Bool.false_and] at hf
                  rw [hf]
                  conv => whnf
                  exact fin0 rfl trivial
                | true =>
                  rw [hx, Bool.true_and] at hz
                  conv => whnf
                  refine ⟨xa.length - (i + 1), by omega, i + 1, rfl, by omega, hz, ?_⟩
                  rw [wr (by omega) (by omega)]; rfl
              · have q := of_decide_eq_false q
                rw [List.length_map] at q
                have hd : xa.drop i = [] := List.drop_eq_nil_iff.2 (by dsimp only at q; omega)
                rw [hd] at hz
                rw [hz] at eA
                conv => whnf
                refine ⟨a.length - (j + 1), by omega, j + 1, rfl, by omega, next eA, ?_⟩
                rw [wr (by omega) (by omega)]; rfl
          have g1 : ¬ xk = 1 := of_decide_eq_false g1
          conv => whnf
          refine branch_of (fun g4 => ?_) (fun g4 => ?_)
          · have g4 : xk = 2 := of_decide_eq_true g4
            have eA : actOk (hasN c) ⟨xk, xn, xa, xw⟩ = (decide (xn = []) && (decide (xa = []) && decide (0 ≤ xw ∧ xw < (hasN c : Int)))) := by unfold actOk; rw [if_neg g1, if_pos g4]
            have ew : IntKind.i64.wrap (((xn.length : Nat) : Int) + ((opsV xa).length : Nat)) = ((xn.length + xa.length : Nat) : Int) := by
              rw [List.length_map, wr (by omega) (by omega)]; omega
            conv => whnf
            refine branch_of (fun g5 => ?_) (fun g5 => ?_)
            · have g5 : 0 < IntKind.i64.wrap (((xn.length : Nat) : Int) + ((opsV xa).length : Nat)) := of_decide_eq_true g5
              rw [ew] at g5
              have e9 : (decide (xn = []) && (decide (xa = []) && decide (0 ≤ xw ∧ xw < (hasN c : Int)))) = false := by
                rw [← Bool.and_assoc]
                have : (decide (xn = []) && decide (xa = [])) = false := by
                  rw [Bool.and_eq_false_iff, decide_eq_false_iff_not, decide_eq_false_iff_not]
                  by_cases e : xn = []
                  · exact .inr (by rintro rfl; rw [e] at g5; simp at g5)
                  · exact .inl e
                rw [this]; rfl
              rw [e9] at eA
              rw [eA, Bool.false_and] at hf
              rw [hf]
              conv => whnf
              refine ⟨by kernel_rfl, ?_⟩
              conv => whnf
              exact fin0 rfl trivial
            have g5 : ¬ 0 < IntKind.i64.wrap (((xn.length : Nat) : Int) + ((opsV xa).length : Nat)) := of_decide_eq_false g5
            rw [ew] at g5
            have z1 : xn = [] := List.eq_nil_of_length_eq_zero (by omega)
            have z2 : xa = [] := List.eq_nil_of_length_eq_zero (by omega)
            rw [decide_eq_true z1, decide_eq_true z2, Bool.true_and, Bool.true_and] at eA
            have eh : decide (0 ≤ xw ∧ xw < (hasN c : Int)) = decide (0 ≤ xw ∧ xw ≤ IntKind.i64.wrap ((hasN c : Int) - 1)) := by
              rw [decide_eq_decide, wr (by omega) (by omega)]; omega
            rw [eh] at eA
            conv => whnf
            refine call0 (qhas_good c b2) ?_
            conv => whnf
            refine call0 (in9_good xw 0 (IntKind.i64.wrap ((hasN c : Int) - 1))) ?_
            cases hq : decide (0 ≤ xw ∧ xw ≤ IntKind.i64.wrap ((hasN c : Int) - 1)) with
            | false =>
              rw [hq] at eA
              rw [eA, Bool.false_and] at hf
              rw [hf]
              conv => whnf
              refine ⟨by kernel_rfl, ?_⟩
              conv => whnf
              exact fin0 rfl trivial
            | true =>
              rw [hq] at eA
              conv => whnf
              refine ⟨by kernel_rfl, ?_⟩
              conv => whnf
              refine ⟨a.length - (j + 1), by omega, j + 1, rfl, by omega, next eA, ?_⟩
              rw [wr (by omega) (by omega)]; rfl
          · have g4 : ¬ xk = 2 := of_decide_eq_false g4
            have eA : actOk (hasN c) ⟨xk, xn, xa, xw⟩ = false := by unfold actOk; rw [if_neg g1, if_neg g4]
            rw [eA, Bool.false_and] at hf
            rw [hf]
            conv => whnf
            exact fin0 rfl trivial
        · have g := of_decide_eq_false g
          rw [List.length_map] at g
          have hd : a.drop j = [] := List.drop_eq_nil_iff.2 (by dsimp only at g; omega)
          rw [hd] at hf
          rw [hf]
          conv => whnf
          exact fin0 rfl trivial
end Go.PV
namespace Go.PV
open Go Go.Proofs
set_option maxRecDepth 100000
def withS (l : List Bs) (s : Bs) : List Bs := if s = [] then l else if s ∈ l then l else l ++ [s]
theorem with_own (l : List Bs) (s : Bs) (hl : l.length ≤ 1000000) : Good Tryz.prog 133 [.own 0 0, .str s] [.arr 0 false 1 (strV l)] [.own 0 0] [.arr 0 false 1 (strV (withS l s))] := by
  refine good_of hP Tryz.func133 (by kernel_rfl) (lv := [0, 1, 4, 5, 8, 13, 21]) (js := []) ⟨rfl, rfl, rfl, rfl, rfl, rfl, _, rfl, ?_⟩
  unfold withS
  conv => whnf
  refine branch_of (fun h => ?_) (fun h => ?_)
  · have h := of_decide_eq_true h
    have hs : s = [] := List.eq_nil_of_length_eq_zero (by omega)
    rw [if_pos hs]
    conv => whnf
    refine ⟨[], rfl, ?_⟩
    conv => whnf
    exact ⟨⟨⟩, rfl, trivial⟩
  have h := of_decide_eq_false h
  have hs : s ≠ [] := by rintro rfl; exact h rfl
  rw [if_neg hs]
  conv => whnf
  refine loop_of hP [0, 1, 4, 5, 8, 13, 21] [] [0, 1, 5] [0] [] (fun n st => ∃ k : Nat, n = l.length - k ∧ k ≤ l.length ∧ (∀ j (h : j < l.length), j < k → l[j] ≠ s) ∧ st = ⟨[(0, .own 0 0), (1, .str s), (5, .int .i64 k)], [(0, .arr 0 false 1 (strV l))]⟩) l.length ?_ ?_
  · conv => whnf
    exact ⟨0, rfl, by omega, fun j _ h => by omega, rfl⟩
  · rintro n st ⟨k, rfl, hk, hn, rfl⟩
    conv => whnf
    refine branch_of (fun h => ?_) (fun h => ?_)
    · have h := of_decide_eq_true h
      rw [List.length_map] at h
      have hk' : k < l.length := by omega
      conv => whnf
      refine ⟨⟨⟩, idxB (f := fun x => [V.str x]) hk' rfl, ?_⟩
      conv => whnf
      refine ⟨[.str l[k]], (idxM (f := fun x => [V.str x]) hk' rfl).2, ?_⟩
      conv => whnf
      refine branch_of (fun h2 => ?_) (fun h2 => ?_)
      · have h2 := of_decide_eq_true h2
        rw [if_pos (by rw [← h2]; exact List.getElem_mem hk')]
        conv => whnf
        refine ⟨[], rfl, ?_⟩
        conv => whnf
        exact ⟨⟨⟩, rfl, trivial⟩
      · have h2 := of_decide_eq_false h2
        conv => whnf
        refine ⟨l.length - (k + 1), by omega, k + 1, rfl, by omega, fun j hj hjk => ?_, ?_⟩
        · by_cases e : j = k
          · subst e; exact h2
          · exact hn j hj (by omega)
        · rw [wr (by omega) (by omega)]; rfl
    · have h := of_decide_eq_false h
      rw [List.length_map] at h
      have hni : s ∉ l := fun hm => by
        obtain ⟨j, hj, e⟩ := List.getElem_of_mem hm
        exact hn j hj (by omega) e
      rw [if_neg hni]
      conv => whnf
      refine ⟨⟨⟩, by dsimp only; simp only [List.length_map, List.length_cons, List.length_nil]; omega, ?_⟩
      conv => whnf
      rw [show strV (l ++ [s]) = strV l ++ [[V.str s]] from by simp]
      refine ⟨[], rfl, ?_⟩
      conv => whnf
      exact ⟨⟨⟩, rfl, trivial⟩
theorem withS_len (l : List Bs) (s : Bs) : (withS l s).length ≤ l.length + 1 := by
  unfold withS
  split
  · omega
  · split
    · omega
    · simp
theorem varGo_with (o : List Bs) (t : Trm) : varGo o t = withS o t.v := by
  unfold varGo withS
  by_cases h : t.v = []
  · rw [if_pos h, if_neg (fun x => x.1 h)]
  · rw [if_neg h]
    by_cases h2 : t.v ∈ o
    · rw [if_pos h2, if_neg (fun x => x.2 h2)]
    · rw [if_neg h2, if_pos ⟨h, h2⟩]
theorem varsS_len (l : List Trm) : ∀ o : List Bs, (l.foldl varGo o).length ≤ o.length + l.length := by
  induction l with
  | nil => intro o; simp
  | cons t l ih =>
    intro o
    have h1 := ih (varGo o t)
    have h2 := withS_len o t.v
    rw [← varGo_with] at h2
    simp only [List.foldl_cons, List.length_cons]; omega
theorem refVars_good (a : Atm) (hl : a.a.length ≤ 1000000) : Good Tryz.prog 70 [.agg a.c] [] [.sl 1 (strV (varsS a.a))] [] := by
  obtain ⟨n, l⟩ := a
  dsimp only at hl
  refine good_of hP Tryz.func70 (by kernel_rfl) (lv := [0, 1, 2, 3, 4, 9]) (js := []) ⟨rfl, rfl, rfl, rfl, rfl, rfl, _, rfl, ?_⟩
  conv => whnf
  refine loop_of hP [0, 1, 2, 3, 4, 9] [] [1, 2, 3, 4] [65, 67] [.slot 3 1] (fun m st => ∃ k : Nat, m = l.length - k ∧ k ≤ l.length ∧ st = ⟨[(1, .ptr 65 0 0), (2, .nil), (3, .own 67 0), (4, .int .i64 k)], [(65, .box 0 (Atm.c ⟨n, l⟩)), (67, .arr 0 false 1 (strV (varsS (l.take k))))]⟩) l.length ?_ ?_
  · conv => whnf
    exact ⟨0, rfl, Nat.zero_le _, rfl⟩
  · rintro m st ⟨k, rfl, hk, rfl⟩
    conv => whnf
    refine branch_of (fun h => ?_) (fun h => ?_)
    · have h := of_decide_eq_true h
      rw [List.length_map] at h
      have hk' : k < l.length := by dsimp only at h; omega
      have hvl := varsS_len (l.take k) []
      rw [List.length_take] at hvl
      conv => whnf
      refine ⟨Trm.c l[k], idxM hk' rfl, ?_⟩
      conv => whnf
      refine callN [(67, 0)] (with_own (varsS (l.take k)) l[k].v (by unfold varsS; simp only [List.length_nil] at hvl; omega)) ?_ 
      conv => whnf
      refine ⟨⟨⟩, rfl, ?_⟩
      conv => whnf
      refine ⟨l.length - (k + 1), by omega, k + 1, rfl, by omega, ?_⟩
      have e : varsS (l.take (k + 1)) = withS (varsS (l.take k)) l[k].v := by
        rw [← varGo_with]; unfold varsS; rw [← List.take_append_getElem hk', List.foldl_append]; rfl
      rw [e, wr (by omega) (by omega)]; rfl
    · have h := of_decide_eq_false h
      rw [List.length_map] at h
      have e : l.take k = l := List.take_of_length_le (by dsimp only at h; omega)
      rw [e]
      conv => whnf
      exact fin0 rfl trivial
theorem free_atm (a : Atm) : free a = (a.a.all fun t => decide (t.v = [])) := rfl
theorem refGround_good (a : Atm) (hl : a.a.length ≤ 1000000) (hf : free a = true) : Good Tryz.prog 72 [.agg a.c, .nil] [] [.agg a.gr.c, .bool true] [] := by
  obtain ⟨n, l⟩ := a
  dsimp only at hl
  rw [free_atm] at hf
  dsimp only at hf
  refine good_of hP Tryz.func72 (by kernel_rfl) (lv := [0, 1, 2, 4, 5, 6, 7, 8, 9, 10, 18, 34, 47]) (js := []) ⟨rfl, rfl, rfl, rfl, rfl, rfl, _, rfl, ?_⟩
  conv => whnf
  refine loop_of hP [0, 1, 2, 4, 5, 6, 7, 8, 9, 10, 18, 34, 47] [] [2, 4, 5, 6, 7] [66, 68, 70, 104481] [.cell 70 1 3] (fun m st => ∃ k : Nat, m = l.length - k ∧ k ≤ l.length ∧ st = ⟨[(2, .ptr 66 0 0), (4, .ptr 68 0 0), (5, .bool false), (6, .ptr 70 0 0), (7, .int .i64 k)], [(66, .box 0 (Atm.c ⟨n, l⟩)), (68, .box 0 [.str [], .nil]), (70, .box 0 [.str n, .own 104481 0]), (104481, .arr 0 false 3 (valV ((l.take k).map Trm.x)))]⟩) l.length ?_ ?_
  · conv => whnf
    exact ⟨0, rfl, Nat.zero_le _, rfl⟩
  · rintro m st ⟨k, rfl, hk, rfl⟩
    conv => whnf
    refine branch_of (fun h => ?_) (fun h => ?_)
    · have h := of_decide_eq_true h
      rw [List.length_map] at h
      have hk' : k < l.length := by dsimp only at h; omega
      have hv : l[k].v = [] := of_decide_eq_true (List.all_eq_true.1 hf _ (List.getElem_mem hk'))
      conv => whnf
      refine ⟨Trm.c l[k], idxM hk' rfl, ?_⟩
      conv => whnf
      refine ⟨Trm.c l[k], idxM hk' rfl, ?_⟩
      conv => whnf
      rw [hv]
      conv => whnf
      refine ⟨⟨⟩, by dsimp only; simp only [List.length_map, List.length_take, List.length_cons, List.length_nil]; omega, ?_⟩
      conv => whnf
      refine ⟨l.length - (k + 1), by omega, k + 1, rfl, by omega, ?_⟩
      rw [← List.take_append_getElem hk', List.map_append, show valV (List.map Trm.x (l.take k) ++ [l[k]].map Trm.x) = valV (List.map Trm.x (l.take k)) ++ [l[k].x.c] from by simp, wr (by omega) (by omega)]
      rfl
    · have h := of_decide_eq_false h
      rw [List.length_map] at h
      have e : l.take k = l := List.take_of_length_le (by dsimp only at h; omega)
      rw [e]
      conv => whnf
      exact fin0 rfl trivial
end Go.PV
namespace Go.PV
open Go Go.Proofs
set_option maxRecDepth 100000
theorem dec_big {u : Nat} (h : ¬ u < 10) : Lib.decDigits u = Lib.decDigits (u / 10) ++ [UInt8.ofNat (48 + u % 10)] := by rw [Lib.decDigits, dif_neg h]
theorem wru8 (n : Int) : IntKind.u8.wrap n = n % 256 := rfl
theorem digits_nat (n : Nat) (hn : n ≤ 4611686018427387904) : Good Tryz.prog 125 [.int .i64 n] [] [.str (Lib.decDigits n)] [] := by
  refine good_of hP Tryz.func125 (by kernel_rfl) (lv := [0, 2, 3, 5, 16]) (js := []) ⟨rfl, rfl, rfl, rfl, rfl, rfl, _, rfl, ?_⟩
  have hDl : (Lib.decDigits n).length ≤ 1000 := by
    rw [Lib.decDigits_length]
    have := nDigits_le 19 n (by omega) (by omega)
    omega
  generalize hD : Lib.decDigits n = D at *
  conv => whnf
  refine loop_of hP [0, 2, 3, 5, 16] [] [0, 2, 3] [] [] (fun m st => ∃ (u : Nat) (X : Bs), m = 2 * u + (if X = [] then 1 else 0) ∧ u ≤ 4611686018427387904 ∧ D = (if u = 0 ∧ X ≠ [] then X else Lib.decDigits u ++ X) ∧ st = ⟨[(0, .int .i64 u), (2, .str []), (3, .str X)], []⟩) (2 * n + 1) ?_ ?_
  · conv => whnf
    exact ⟨n, [], rfl, hn, by rw [if_neg (fun h => h.2 rfl), List.append_nil, hD], rfl⟩
  · rintro m st ⟨u, X, rfl, hu, he, rfl⟩
    by_cases hx : u = 0 ∧ X ≠ []
    · obtain ⟨rfl, hX⟩ := hx
      rw [if_pos ⟨rfl, hX⟩] at he
      subst he
      conv => whnf
      have e : decide (((List.length D : Nat) : Int) = 0) = false := decide_eq_false (fun h => hX (List.eq_nil_of_length_eq_zero (by omega)))
      rw [e]
      conv => whnf
      exact fin0 rfl trivial
    · rw [if_neg hx] at he
      have hXl : X.length ≤ 1000 := by have := congrArg List.length he; rw [List.length_append] at this; omega
      have q1 : ((u : Nat) : Int).tmod 10 = ((u % 10 : Nat) : Int) := by
        rw [Int.tmod_eq_emod_of_nonneg (by omega)]; omega
      have q2 : IntKind.i64.wrap (((u : Nat) : Int).tdiv 10) = ((u / 10 : Nat) : Int) := by
        rw [Int.tdiv_eq_ediv_of_nonneg (by omega), wr (by omega) (by omega)]; omega
      have q3 : IntKind.u8.wrap (IntKind.i64.wrap (48 + ((u % 10 : Nat) : Int))) = ((48 + u % 10 : Nat) : Int) := by
        rw [wr (by omega) (by omega), wru8]; omega
      conv => whnf
      refine branch_of (fun h => ?_) (fun h => ?_)
      · have h := of_decide_eq_true h
        conv => whnf
        refine ⟨⟨⟩, by decide, ?_⟩
        conv => whnf
        rw [q1]
        refine ⟨⟨⟩, fun y hy => ⟨_, List.mem_singleton.1 hy⟩, ?_⟩
        conv => whnf
        rw [q3]
        have e5 : List.map (fun y => UInt8.ofNat (numOf y).toNat) [[V.int .u8 ((48 + u % 10 : Nat) : Int)]] = [UInt8.ofNat (48 + u % 10)] := rfl
        rw [e5]
        refine ⟨⟨⟩, by show 1 + X.length ≤ 9223372036854775807; omega, ?_⟩
        conv => whnf
        refine ⟨⟨⟩, by decide, ?_⟩
        conv => whnf
        rw [q2]
        refine ⟨2 * (u / 10) + 0, by split <;> omega, u / 10, UInt8.ofNat (48 + u % 10) :: X, rfl, by omega, ?_, rfl⟩
        by_cases hs : u < 10
        · rw [if_pos ⟨by omega, by simp⟩, he, Lib.decDigits, dif_pos hs, show u % 10 = u by omega]; rfl
        · rw [if_neg (by omega), he, dec_big hs, List.append_assoc]; rfl
      · have h := of_decide_eq_false h
        have hu0 : u = 0 := by omega
        have hX : X = [] := Decidable.byContradiction fun e => hx ⟨hu0, e⟩
        subst hu0 hX
        conv => whnf
        refine ⟨⟨⟩, by decide, ?_⟩
        conv => whnf
        refine ⟨⟨⟩, fun y hy => ⟨_, List.mem_singleton.1 hy⟩, ?_⟩
        conv => whnf
        refine ⟨⟨⟩, by decide, ?_⟩
        conv => whnf
        refine ⟨⟨⟩, by decide, ?_⟩
        conv => whnf
        refine ⟨0, by decide, 0, [48], rfl, by omega, ?_, rfl⟩
        rw [if_pos ⟨rfl, by simp⟩, he, Lib.decDigits, dif_pos (by omega)]; rfl
theorem refDigits_good (n : Int) (hn : inR n = true) : Good Tryz.prog 125 [.int .i64 n] [] [.str (Lib.itoa n)] [] := by
  have hl := itoa_len hn
  have hr := hn
  unfold inR at hr
  have hr := of_decide_eq_true hr
  by_cases h0 : n < 0
  · refine good_of hP Tryz.func125 (by kernel_rfl) (lv := [0, 2, 3, 5, 16]) (js := []) ⟨rfl, rfl, rfl, rfl, rfl, rfl, _, rfl, ?_⟩
    conv => whnf
    refine branch_of (fun h => ?_) (fun h => ?_)
    · conv => whnf
      have e : IntKind.i64.wrap (0 - n) = ((n.natAbs : Nat) : Int) := by rw [wr (by omega) (by omega)]; omega
      rw [e]
      refine call0 (digits_nat n.natAbs (by omega)) ?_
      have e2 : Lib.itoa n = 45 :: Lib.decDigits n.natAbs := by unfold Lib.itoa; rw [if_pos h0]
      rw [e2] at hl ⊢
      rw [List.length_cons] at hl
      conv => whnf
      refine ⟨⟨⟩, by show 1 + (Lib.decDigits n.natAbs).length ≤ 9223372036854775807; omega, ?_⟩
      conv => whnf
      exact fin0 rfl trivial
    · have h := of_decide_eq_false h; omega
  · have e2 : Lib.itoa n = Lib.decDigits n.toNat := by unfold Lib.itoa; rw [if_neg h0]
    have e3 : ((n.toNat : Nat) : Int) = n := by omega
    have := digits_nat n.toNat (by omega)
    rw [e3] at this
    rw [e2]; exact this
theorem refVText_good (v : Val) (h : checkS v = true) : Good Tryz.prog 140 [.agg v.c] [] [.str (textV v)] [] := by
  have hl := textV_len h
  have ht : textV v = if v.k = 1 then Lib.itoa v.n else if v.k = 2 then v.s else quotedS v.s := by unfold textV; rw [if_pos h]
  rw [ht] at hl ⊢
  obtain ⟨k, n, s⟩ := v
  dsimp only at hl ⊢
  refine good_of hP Tryz.func140 (by kernel_rfl) (lv := [0, 1, 2, 3, 4, 6, 7, 12, 20, 34]) (js := []) ⟨rfl, rfl, rfl, rfl, rfl, rfl, _, rfl, ?_⟩
  conv => whnf
  refine branch_of (fun h1 => ?_) (fun h1 => ?_)
  · have h1 : k = 1 := of_decide_eq_true h1
    rw [if_pos h1]
    have hr : inR n = true := by
      unfold checkS at h
      dsimp only at h
      rw [if_pos h1, Bool.and_eq_true] at h
      exact h.1
    conv => whnf
    refine call0 (refDigits_good n hr) ?_
    conv => whnf
    exact fin0 rfl trivial
  have h1 : ¬ k = 1 := of_decide_eq_false h1
  rw [if_neg h1] at hl ⊢
  conv => whnf
  refine branch_of (fun h2 => ?_) (fun h2 => ?_)
  · have h2 : k = 2 := of_decide_eq_true h2
    rw [if_pos h2]
    conv => whnf
    exact fin0 rfl trivial
  have h2 : ¬ k = 2 := of_decide_eq_false h2
  rw [if_neg h2] at hl ⊢
  have hsl : s.length ≤ 60 := by
    unfold checkS at h
    dsimp only at h
    rw [if_neg h1, if_neg h2] at h
    split at h
    · unfold plainS at h; simp at h; exact h.2.2
    · cases h
  conv => whnf
  refine loop_of hP [0, 1, 2, 3, 4, 6, 7, 12, 20, 34] [] [1, 2, 3, 4] [65] [] (fun m st => ∃ i : Nat, m = s.length - i ∧ i ≤ s.length ∧ st = ⟨[(1, .ptr 65 0 0), (2, .str []), (3, .str (34 :: (s.take i).flatMap quoteB)), (4, .int .i64 i)], [(65, .box 0 (Val.c ⟨k, n, s⟩))]⟩) s.length ?_ ?_
  · conv => whnf
    exact ⟨0, rfl, Nat.zero_le _, rfl⟩
  · rintro m st ⟨i, rfl, hi, rfl⟩
    have hfl := flatMap_len (s.take i)
    rw [List.length_take] at hfl
    conv => whnf
    refine branch_of (fun g => ?_) (fun g => ?_)
    · have g := of_decide_eq_true g
      have hi' : i < s.length := by dsimp only at g; omega
      have hsn : (s.take (i + 1)).flatMap quoteB = (s.take i).flatMap quoteB ++ quoteB s[i] := flatMap_snoc' quoteB s hi'
      conv => whnf
      refine ⟨s[i], idx hi' rfl, ?_⟩
      have hw : IntKind.i64.wrap ((i : Int) + 1) = ((i + 1 : Nat) : Int) := by rw [wr (by omega) (by omega)]; rfl
      have hcut : List.drop ((i : Nat) : Int).toNat (List.take ((i + 1 : Nat) : Int).toNat s) = [s[i]] := sub1 hi'
      conv => whnf
      refine branch_of (fun g1 => ?_) (fun g1 => ?_)
      · have g1 := of_decide_eq_true g1
        have hq : quoteB s[i] = [92, s[i]] := by unfold quoteB escB; rw [if_pos (by simp; omega)]
        conv => whnf
        refine ⟨⟨⟩, by dsimp only; simp only [List.length_cons, List.length_nil]; omega, ?_⟩
        conv => whnf
        rw [hw]
        refine ⟨⟨⟩, ⟨by omega, by omega, by show ((i + 1 : Nat) : Int) ≤ (s.length : Int); omega⟩, ?_⟩
        conv => whnf
        rw [hcut]
        refine ⟨⟨⟩, by simp only [List.length_append, List.length_cons, List.length_nil]; omega, ?_⟩
        conv => whnf
        refine ⟨s.length - (i + 1), by omega, i + 1, rfl, by omega, ?_⟩
        rw [hsn, hq, hw]
        have e : (34 :: (List.flatMap quoteB (List.take i s) ++ [92, s[i]]) : Bs) = (34 :: List.flatMap quoteB (List.take i s)) ++ [92] ++ [s[i]] := by simp
        rw [e]
      have g1 := of_decide_eq_false g1
      conv => whnf
      refine ⟨s[i], idx hi' rfl, ?_⟩
      conv => whnf
      refine branch_of (fun g2 => ?_) (fun g2 => ?_)
      · have g2 := of_decide_eq_true g2
        have hq : quoteB s[i] = [92, s[i]] := by unfold quoteB escB; rw [if_pos (by simp; omega)]
        conv => whnf
        refine ⟨⟨⟩, by dsimp only; simp only [List.length_cons, List.length_nil]; omega, ?_⟩
        conv => whnf
        rw [hw]
        refine ⟨⟨⟩, ⟨by omega, by omega, by show ((i + 1 : Nat) : Int) ≤ (s.length : Int); omega⟩, ?_⟩
        conv => whnf
        rw [hcut]
        refine ⟨⟨⟩, by simp only [List.length_append, List.length_cons, List.length_nil]; omega, ?_⟩
        conv => whnf
        refine ⟨s.length - (i + 1), by omega, i + 1, rfl, by omega, ?_⟩
        rw [hsn, hq, hw]
        have e : (34 :: (List.flatMap quoteB (List.take i s) ++ [92, s[i]]) : Bs) = (34 :: List.flatMap quoteB (List.take i s)) ++ [92] ++ [s[i]] := by simp
        rw [e]
      · have g2 := of_decide_eq_false g2
        have hq : quoteB s[i] = [s[i]] := by unfold quoteB escB; rw [if_neg (by simp; omega)]
        conv => whnf
        rw [hw]
        refine ⟨⟨⟩, ⟨by omega, by omega, by show ((i + 1 : Nat) : Int) ≤ (s.length : Int); omega⟩, ?_⟩
        conv => whnf
        rw [hcut]
        refine ⟨⟨⟩, by simp only [List.length_cons, List.length_nil]; omega, ?_⟩
        conv => whnf
        refine ⟨s.length - (i + 1), by omega, i + 1, rfl, by omega, ?_⟩
        rw [hsn, hq, hw]
        rfl
    · have g := of_decide_eq_false g
      have e : s.take i = s := List.take_of_length_le (by dsimp only at g; omega)
      rw [e]
      rw [e] at hfl
      conv => whnf
      refine ⟨⟨⟩, by dsimp only; simp only [List.length_cons, List.length_nil]; omega, ?_⟩
      conv => whnf
      exact fin0 rfl trivial
/-- a text of parts, so far -/
def accS (n : Bs) : List Bs → Bs
  | [] => n
  | p :: r => n ++ [40] ++ p ++ Lib.joinTail [44, 32] r
theorem accS_snoc (n : Bs) (ps : List Bs) (p : Bs) : accS n (ps ++ [p]) = accS n ps ++ (if ps = [] then [40] else [44, 32]) ++ p := by
  cases ps with
  | nil => simp [accS, Lib.joinTail]
  | cons q r => simp [accS, Lib.joinTail]
theorem accS_end (n : Bs) {ps : List Bs} (h : ps ≠ []) : accS n ps ++ [41] = n ++ [40] ++ Lib.join ps [44, 32] ++ [41] := by
  cases ps with
  | nil => exact absurd rfl h
  | cons q r => simp [accS, Lib.join_cons]
theorem accS_len (n : Bs) (ps : List Bs) (b : Nat) (h : ∀ p ∈ ps, p.length ≤ b) : (accS n ps).length ≤ n.length + (b + 2) * ps.length := by
  cases ps with
  | nil => simp [accS]
  | cons q r =>
    have hq := h q (by simp)
    have : ∀ r : List Bs, (∀ p ∈ r, p.length ≤ b) → (Lib.joinTail [44, 32] r).length ≤ (b + 2) * r.length := fun r => by
      induction r with
      | nil => intro _; simp [Lib.joinTail]
      | cons x r ih =>
        intro hx
        have h1 := ih (fun p hp => hx p (by simp [hp]))
        have h2 := hx x (by simp)
        simp only [Lib.joinTail] at h1 ⊢
        simp only [List.map_cons, List.flatten_cons, List.length_append, List.length_cons, List.length_nil, Nat.mul_succ]
        omega
    have h1 := this r (fun p hp => h p (by simp [hp]))
    simp only [accS, List.length_append, List.length_cons, List.length_nil, Nat.mul_succ]
    omega
theorem factT_acc (f : Fct) : factT f = if f.a = [] then f.n else accS f.n (f.a.map textV) ++ [41] := by
  split
  · rename_i h; exact factT_nil h
  · rename_i h; rw [accS_end _ (by simp [h]), factT_join h]
theorem refFText_good (f : Fct) (h : factOk f = true) : Good Tryz.prog 76 [.agg f.c] [] [.str (factT f)] [] := by
  obtain ⟨n, l⟩ := f
  have hk := h
  unfold factOk at hk
  simp only [Bool.and_eq_true, decide_eq_true_eq] at hk
  obtain ⟨⟨hnm, hl5⟩, hall⟩ := hk
  have hn : n.length ≤ 24 := by
    unfold nameS refWordS at hnm
    simp at hnm; omega
  have hl5 : l.length ≤ 5 := hl5
  have hall : l.all checkS = true := hall
  refine good_of hP Tryz.func76 (by kernel_rfl) (lv := [0, 1, 2, 3, 4, 11, 15, 31]) (js := []) ⟨rfl, rfl, rfl, rfl, rfl, rfl, _, rfl, ?_⟩
  have e0 : factT ⟨n, l⟩ = if l = [] then n else accS n (l.map textV) ++ [41] := factT_acc ⟨n, l⟩
  rw [e0]
  have hb : ∀ k : Nat, ∀ p ∈ (l.take k).map textV, p.length ≤ 122 := fun k p hp => by
    obtain ⟨v, hv, rfl⟩ := List.mem_map.1 hp
    exact textV_len (List.all_eq_true.1 hall v (List.mem_of_mem_take hv))
  conv => whnf
  refine loop_of hP [0, 1, 2, 3, 4, 11, 15, 31] [] [1, 2, 3, 4] [65] [] (fun m st => ∃ k : Nat, m = l.length - k ∧ k ≤ l.length ∧ st = ⟨[(1, .ptr 65 0 0), (2, .str []), (3, .str (accS n ((l.take k).map textV))), (4, .int .i64 k)], [(65, .box 0 (Fct.c ⟨n, l⟩))]⟩) l.length ?_ ?_
  · conv => whnf
    exact ⟨0, rfl, Nat.zero_le _, rfl⟩
  · rintro m st ⟨k, rfl, hkl, rfl⟩
    have hal := accS_len n ((l.take k).map textV) 122 (hb k)
    rw [List.length_map, List.length_take] at hal
    conv => whnf
    refine branch_of (fun g => ?_) (fun g => ?_)
    · have g := of_decide_eq_true g
      rw [List.length_map] at g
      have hk' : k < l.length := by dsimp only at g; omega
      have hck : checkS l[k] = true := List.all_eq_true.1 hall _ (List.getElem_mem hk')
      have hvl := textV_len hck
      have hsn : accS n ((l.take (k + 1)).map textV) = accS n ((l.take k).map textV) ++ (if (l.take k).map textV = [] then [40] else [44, 32]) ++ textV l[k] := by
        rw [map_snoc _ l hk', accS_snoc]
      have hw : IntKind.i64.wrap ((k : Int) + 1) = ((k + 1 : Nat) : Int) := by rw [wr (by omega) (by omega)]; rfl
      conv => whnf
      refine branch_of (fun g1 => ?_) (fun g1 => ?_)
      · have g1 := of_decide_eq_true g1
        have hk0 : k = 0 := by omega
        rw [if_pos (by rw [hk0]; rfl)] at hsn
        conv => whnf
        refine ⟨⟨⟩, by dsimp only; simp only [List.length_cons, List.length_nil]; omega, ?_⟩
        conv => whnf
        refine ⟨Val.c l[k], idxM hk' rfl, ?_⟩
        conv => whnf
        refine call0 (refVText_good l[k] hck) ?_
        conv => whnf
        refine ⟨⟨⟩, by simp only [List.length_append, List.length_cons, List.length_nil]; omega, ?_⟩
        conv => whnf
        refine ⟨l.length - (k + 1), by omega, k + 1, rfl, by omega, ?_⟩
        rw [hsn, hw]
      · have g1 := of_decide_eq_false g1
        rw [if_neg (by rw [List.map_eq_nil_iff, List.take_eq_nil_iff]; rintro (e | e); exact g1 (by omega); rw [e] at hk'; simp at hk')] at hsn
        conv => whnf
        refine ⟨⟨⟩, by dsimp only; simp only [List.length_cons, List.length_nil]; omega, ?_⟩
        conv => whnf
        refine ⟨Val.c l[k], idxM hk' rfl, ?_⟩
        conv => whnf
        refine call0 (refVText_good l[k] hck) ?_
        conv => whnf
        refine ⟨⟨⟩, by simp only [List.length_append, List.length_cons, List.length_nil]; omega, ?_⟩
        conv => whnf
        refine ⟨l.length - (k + 1), by omega, k + 1, rfl, by omega, ?_⟩
        rw [hsn, hw]
    · have g := of_decide_eq_false g
      rw [List.length_map] at g
      have e : l.take k = l := List.take_of_length_le (by dsimp only at g; omega)
      rw [e] at hal ⊢
      conv => whnf
      refine branch_of (fun g2 => ?_) (fun g2 => ?_)
      · have g2 := of_decide_eq_true g2
        rw [List.length_map] at g2
        have hne : l ≠ [] := by rintro rfl; exact absurd g2 (by simp)
        rw [if_neg hne]
        conv => whnf
        refine ⟨⟨⟩, by dsimp only; simp only [List.length_cons, List.length_nil]; omega, ?_⟩
        conv => whnf
        exact fin0 rfl trivial
      · have g2 := of_decide_eq_false g2
        rw [List.length_map] at g2
        have hne : l = [] := List.eq_nil_of_length_eq_zero (by dsimp only at g2; omega)
        rw [if_pos hne]
        conv => whnf
        subst hne
        exact fin0 rfl trivial
end Go.PV
namespace Go.PV
open Go Go.Proofs
set_option maxRecDepth 100000
theorem qfit_good (s : Bs) (h : s.length ≤ 1000000) : Good Tryz.prog 46 [.str s] [] [.str (if 20000 < s.length then [] else s), .int .i64 (if 20000 < s.length then 2 else 0)] [] := by
  refine good_of hP Tryz.func46 (by kernel_rfl) (lv := [0, 2, 3, 6]) (js := []) ⟨rfl, rfl, rfl, rfl, rfl, rfl, _, rfl, ?_⟩
  conv => whnf
  refine branch_of (fun h1 => ?_) (fun h1 => ?_)
  · have h1 := of_decide_eq_true h1
    rw [if_pos (by omega), if_pos (by omega)]
    conv => whnf
    exact fin0 rfl trivial
  · have h1 := of_decide_eq_false h1
    rw [if_neg (by omega), if_neg (by omega)]
    conv => whnf
    exact fin0 rfl trivial
theorem qtermT_good (t : Trm) (h : termOk t = true) : Good Tryz.prog 158 [.agg t.c] [] [.str (termT t)] [] := by
  have hx : t.v = [] → checkS t.x = true := fun e => by
    unfold termOk at h
    rw [if_pos e] at h
    exact h
  obtain ⟨v, x⟩ := t
  dsimp only at hx
  refine good_of hP Tryz.func158 (by kernel_rfl) (lv := [0, 1, 2, 6]) (js := []) ⟨rfl, rfl, rfl, rfl, rfl, rfl, _, rfl, ?_⟩
  unfold termT
  dsimp only
  conv => whnf
  refine branch_of (fun h1 => ?_) (fun h1 => ?_)
  · have h1 := of_decide_eq_true h1
    dsimp only at h1
    rw [if_neg (by rintro rfl; exact absurd h1 (by simp))]
    conv => whnf
    exact fin0 rfl trivial
  · have h1 := of_decide_eq_false h1
    dsimp only at h1
    have hv : v = [] := List.eq_nil_of_length_eq_zero (by omega)
    rw [if_pos hv]
    conv => whnf
    refine call0 (refVText_good x (hx hv)) ?_
    conv => whnf
    exact fin0 rfl trivial
theorem atomT_acc (a : Atm) : atomT a = if a.a = [] then a.n else accS a.n (a.a.map termT) ++ [41] := by
  split
  · rename_i h; exact atomT_nil h
  · rename_i h; rw [accS_end _ (by simp [h]), atomT_join h]
theorem qatomT_good (a : Atm) (h : atomOk a = true) : Good Tryz.prog 100 [.agg a.c] [] [.str (atomT a)] [] := by
  obtain ⟨n, l⟩ := a
  have hk := h
  unfold atomOk at hk
  simp only [Bool.and_eq_true, decide_eq_true_eq] at hk
  obtain ⟨⟨hnm, hl5⟩, hall⟩ := hk
  have hn : n.length ≤ 24 := by
    unfold nameS refWordS at hnm
    simp at hnm; omega
  have hl5 : l.length ≤ 5 := hl5
  have hall : l.all termOk = true := hall
  refine good_of hP Tryz.func100 (by kernel_rfl) (lv := [0, 1, 2, 3, 4, 11, 15, 31]) (js := []) ⟨rfl, rfl, rfl, rfl, rfl, rfl, _, rfl, ?_⟩
  have e0 : atomT ⟨n, l⟩ = if l = [] then n else accS n (l.map termT) ++ [41] := atomT_acc ⟨n, l⟩
  rw [e0]
  have hb : ∀ k : Nat, ∀ p ∈ (l.take k).map termT, p.length ≤ 122 := fun k p hp => by
    obtain ⟨v, hv, rfl⟩ := List.mem_map.1 hp
    exact termT_len (List.all_eq_true.1 hall v (List.mem_of_mem_take hv))
  conv => whnf
  refine loop_of hP [0, 1, 2, 3, 4, 11, 15, 31] [] [1, 2, 3, 4] [65] [] (fun m st => ∃ k : Nat, m = l.length - k ∧ k ≤ l.length ∧ st = ⟨[(1, .ptr 65 0 0), (2, .str []), (3, .str (accS n ((l.take k).map termT))), (4, .int .i64 k)], [(65, .box 0 (Atm.c ⟨n, l⟩))]⟩) l.length ?_ ?_
  · conv => whnf
    exact ⟨0, rfl, Nat.zero_le _, rfl⟩
  · rintro m st ⟨k, rfl, hkl, rfl⟩
    have hal := accS_len n ((l.take k).map termT) 122 (hb k)
    rw [List.length_map, List.length_take] at hal
    conv => whnf
    refine branch_of (fun g => ?_) (fun g => ?_)
    · have g := of_decide_eq_true g
      rw [List.length_map] at g
      have hk' : k < l.length := by dsimp only at g; omega
      have hck : termOk l[k] = true := List.all_eq_true.1 hall _ (List.getElem_mem hk')
      have hvl := termT_len hck
      have hsn : accS n ((l.take (k + 1)).map termT) = accS n ((l.take k).map termT) ++ (if (l.take k).map termT = [] then [40] else [44, 32]) ++ termT l[k] := by
        rw [map_snoc _ l hk', accS_snoc]
      have hw : IntKind.i64.wrap ((k : Int) + 1) = ((k + 1 : Nat) : Int) := by rw [wr (by omega) (by omega)]; rfl
      conv => whnf
      refine branch_of (fun g1 => ?_) (fun g1 => ?_)
      · have g1 := of_decide_eq_true g1
        have hk0 : k = 0 := by omega
        rw [if_pos (by rw [hk0]; rfl)] at hsn
        conv => whnf
        refine ⟨⟨⟩, by dsimp only; simp only [List.length_cons, List.length_nil]; omega, ?_⟩
        conv => whnf
        refine ⟨Trm.c l[k], idxM hk' rfl, ?_⟩
        conv => whnf
        refine call0 (qtermT_good l[k] hck) ?_
        conv => whnf
        refine ⟨⟨⟩, by simp only [List.length_append, List.length_cons, List.length_nil]; omega, ?_⟩
        conv => whnf
        refine ⟨l.length - (k + 1), by omega, k + 1, rfl, by omega, ?_⟩
        rw [hsn, hw]
      · have g1 := of_decide_eq_false g1
        rw [if_neg (by rw [List.map_eq_nil_iff, List.take_eq_nil_iff]; rintro (e | e); exact g1 (by omega); rw [e] at hk'; simp at hk')] at hsn
        conv => whnf
        refine ⟨⟨⟩, by dsimp only; simp only [List.length_cons, List.length_nil]; omega, ?_⟩
        conv => whnf
        refine ⟨Trm.c l[k], idxM hk' rfl, ?_⟩
        conv => whnf
        refine call0 (qtermT_good l[k] hck) ?_
        conv => whnf
        refine ⟨⟨⟩, by simp only [List.length_append, List.length_cons, List.length_nil]; omega, ?_⟩
        conv => whnf
        refine ⟨l.length - (k + 1), by omega, k + 1, rfl, by omega, ?_⟩
        rw [hsn, hw]
    · have g := of_decide_eq_false g
      rw [List.length_map] at g
      have e : l.take k = l := List.take_of_length_le (by dsimp only at g; omega)
      rw [e] at hal ⊢
      conv => whnf
      refine branch_of (fun g2 => ?_) (fun g2 => ?_)
      · have g2 := of_decide_eq_true g2
        rw [List.length_map] at g2
        have hne : l ≠ [] := by rintro rfl; exact absurd g2 (by simp)
        rw [if_neg hne]
        conv => whnf
        refine ⟨⟨⟩, by dsimp only; simp only [List.length_cons, List.length_nil]; omega, ?_⟩
        conv => whnf
        exact fin0 rfl trivial
      · have g2 := of_decide_eq_false g2
        rw [List.length_map] at g2
        have hne : l = [] := List.eq_nil_of_length_eq_zero (by dsimp only at g2; omega)
        rw [if_pos hne]
        conv => whnf
        subst hne
        exact fin0 rfl trivial
end Go.PV
namespace Go.PV
open Go Go.Proofs
set_option maxRecDepth 100000
theorem qexprT_good (l : List Stp) (hb : opsB l) (hk : exprOk l = true) : Good Tryz.prog 126 [.sl 5 (stpV l)] [] [.str (exprT l)] [] := by
  refine good_of hP Tryz.func126 (by kernel_rfl) (lv := [0, 2, 3, 4, 5, 6, 7, 11, 19, 51, 58]) (js := []) ⟨rfl, rfl, rfl, rfl, rfl, rfl, _, rfl, ?_⟩
  obtain ⟨hl, ho⟩ := hb
  have hk2 := hk
  unfold exprOk at hk
  simp only [Bool.and_eq_true, decide_eq_true_eq] at hk
  obtain ⟨⟨hl1, hl2⟩, hd⟩ := hk
  conv => whnf
  refine loop_of hP [0, 2, 3, 4, 5, 6, 7, 11, 19, 51, 58] [] [0, 2, 3, 4] [67] [.slot 3 1] (fun n st => ∃ (k : Nat) (S : List Bs), n = l.length - k ∧ k ≤ l.length ∧ depGo 0 l = depGo S.length (l.drop k) ∧ xtGo [] l = xtGo S (l.drop k) ∧ (S.map List.length).sum ≤ 130 * k ∧ S.length ≤ k ∧ st = ⟨[(0, .sl 5 (stpV l)), (2, .str []), (3, .own 67 0), (4, .int .i64 k)], [(67, .arr 0 false 1 (strV S.reverse))]⟩) l.length ?_ ?_
  · conv => whnf
    exact ⟨0, [], rfl, Nat.zero_le _, rfl, rfl, Nat.le_refl _, Nat.le_refl _, rfl⟩
  · rintro n st ⟨k, S, rfl, hkl, he, ht, hsum, hSl, rfl⟩
    conv => whnf
    refine branch_of (fun h1 => ?_) (fun h1 => ?_)
    · have h1 := of_decide_eq_true h1
      have hk' : k < l.length := by rw [List.length_map] at h1; omega
      rw [List.drop_eq_getElem_cons hk', depGo] at he
      rw [List.drop_eq_getElem_cons hk'] at ht
      have hs : stpOk l[k] = true := by
        cases hs : stpOk l[k] with
        | true => rfl
        | false => rw [hs, if_neg (by simp), hd] at he; cases he
      rw [hs, if_pos rfl] at he
      have h5 := stpOk_k hs
      have hob := ho _ (List.getElem_mem hk')
      have ix := idxM (f := Stp.c) hk' (x := (k : Int)) rfl
      conv => whnf
      generalize l[k] = o at *
      refine ⟨Stp.c o, ix, ?_⟩
      have hw4 : IntKind.i64.wrap ((k : Int) + 1) = (k + 1 : Nat) := by rw [wr (by omega) (by omega)]; rfl
      have push : o.k ≤ 2 → xtGo [] l = xtGo (termT ⟨o.v, o.x⟩ :: S) (l.drop (k + 1)) ∧ depGo 0 l = depGo (S.length + 1) (l.drop (k + 1)) ∧ (termT ⟨o.v, o.x⟩).length ≤ 122 := fun h => by
        rw [if_pos h] at he
        rw [xt_push h] at ht
        exact ⟨ht, he, termT_len (stpOk_push hs h).1⟩
      have snoc : ∀ t : Bs, strV (t :: S).reverse = strV S.reverse ++ [[.str t]] := fun t => by rw [List.reverse_cons]; exact List.map_append
      conv => whnf
      refine branch_of (fun h2 => ?_) (fun h2 => ?_)
      · have h2 : o.k = 1 := of_decide_eq_true h2
        obtain ⟨p1, p2, p3⟩ := push (by omega)
        have hv : o.v ≠ [] := fun e => by have := (stpOk_push hs (by omega)).2; rw [if_pos e] at this; omega
        have et : termT ⟨o.v, o.x⟩ = o.v := by unfold termT; rw [if_neg hv]
        rw [et] at p1 p3
        conv => whnf
        refine ⟨⟨⟩, by dsimp only; simp only [List.length_map, List.length_reverse, List.length_cons, List.length_nil]; omega, ?_⟩
        conv => whnf
        refine ⟨l.length - (k + 1), by omega, k + 1, o.v :: S, rfl, by omega, p2, p1, by simp only [List.map_cons, List.sum_cons]; omega, by simp; omega, ?_⟩
        rw [hw4, snoc]
      have h2 : ¬ o.k = 1 := of_decide_eq_false h2
      conv => whnf
      refine branch_of (fun h3 => ?_) (fun h3 => ?_)
      · have h3 : o.k = 2 := of_decide_eq_true h3
        obtain ⟨p1, p2, p3⟩ := push (by omega)
        have hv : o.v = [] := by
          by_cases e : o.v = []
          · exact e
          · have := (stpOk_push hs (by omega)).2; rw [if_neg e] at this; omega
        have et : termT ⟨o.v, o.x⟩ = textV o.x := by unfold termT; rw [if_pos hv]
        have hx : checkS o.x = true := by
          have := (stpOk_push hs (by omega)).1
          unfold termOk at this
          rw [if_pos hv] at this
          exact this
        rw [et] at p1 p3
        conv => whnf
        refine call0 (refVText_good o.x hx) ?_
        conv => whnf
        refine ⟨⟨⟩, by dsimp only; simp only [List.length_map, List.length_reverse, List.length_cons, List.length_nil]; omega, ?_⟩
        conv => whnf
        refine ⟨l.length - (k + 1), by omega, k + 1, textV o.x :: S, rfl, by omega, p2, p1, by simp only [List.map_cons, List.sum_cons]; omega, by simp; omega, ?_⟩
        rw [hw4, snoc]
      have h3 : ¬ o.k = 2 := of_decide_eq_false h3
      rw [if_neg (by omega)] at he
      have hS2 : ¬ S.length < 2 := fun h => by rw [if_pos h, hd] at he; cases he
      rw [if_neg hS2] at he
      match S, hS2, he, ht, hsum, hSl with
      | [], h, _, _, _, _ => simp at h
      | [_], h, _, _, _, _ => simp at h
      | b :: a :: S, _, he, ht, hsum, hSl =>
        rw [xt_op (by omega)] at ht
        simp only [List.map_cons, List.sum_cons] at hsum
        simp only [List.length_cons] at hSl
        have hop := (stpOk_op hs (by omega)).1
        have hol : (opT o.k).length = 1 := by unfold opT; split; rfl; split <;> rfl
        have hw1 : IntKind.i64.wrap (((strV (b :: a :: S).reverse).length : Int) - 2) = (S.length : Nat) := by
          rw [List.length_map, List.length_reverse, List.length_cons, List.length_cons, wr (by omega) (by omega)]; omega
        have hw2 : IntKind.i64.wrap (((strV (b :: a :: S).reverse).length : Int) - 1) = (S.length + 1 : Nat) := by
          rw [List.length_map, List.length_reverse, List.length_cons, List.length_cons, wr (by omega) (by omega)]; omega
        have hw3 : IntKind.i64.wrap (o.k - 3) = o.k - 3 := wr (by omega) (by omega)
        have hr : (b :: a :: S).reverse = S.reverse ++ [a, b] := by simp
        have ga : (strV (b :: a :: S).reverse)[((S.length : Nat) : Int).toNat]? = some [.str a] := by rw [hr]; simp
        have gb : (strV (b :: a :: S).reverse)[((S.length + 1 : Nat) : Int).toNat]? = some [.str b] := by rw [hr]; simp
        have go : (strV [[32, 43, 32], [32, 45, 32], [32, 42, 32]])[(o.k - 3).toNat]? = some [.str ([32] ++ opT o.k ++ [32])] := by
          rcases hop with e | e | e <;> rw [e] <;> rfl
        conv => whnf
        rw [hw3]
        refine ⟨⟨⟩, by dsimp only; simp only [List.length_cons, List.length_nil]; omega, ?_⟩
        conv => whnf
        refine ⟨[.str ([32] ++ opT o.k ++ [32])], go, ?_⟩
        conv => whnf
        rw [hw1]
        refine ⟨⟨⟩, by dsimp only; rw [List.length_map, List.length_reverse, List.length_cons, List.length_cons]; omega, ?_⟩
        conv => whnf
        refine ⟨[.str a], ga, ?_⟩
        conv => whnf
        refine ⟨⟨⟩, by dsimp only; simp only [List.length_cons, List.length_nil]; omega, ?_⟩
        conv => whnf
        refine ⟨⟨⟩, by dsimp only; simp only [List.length_append, List.length_cons, List.length_nil]; omega, ?_⟩
        conv => whnf
        rw [hw2]
        refine ⟨⟨⟩, by dsimp only; rw [List.length_map, List.length_reverse, List.length_cons, List.length_cons]; omega, ?_⟩
        conv => whnf
        refine ⟨[.str b], gb, ?_⟩
        conv => whnf
        refine ⟨⟨⟩, by dsimp only; simp only [List.length_append, List.length_cons, List.length_nil]; omega, ?_⟩
        conv => whnf
        refine ⟨⟨⟩, by dsimp only; simp only [List.length_append, List.length_cons, List.length_nil]; omega, ?_⟩
        conv => whnf
        refine ⟨by kernel_rfl, ?_⟩
        conv => whnf
        have tk : (strV (b :: a :: S).reverse).take ((S.length : Nat) : Int).toNat = strV S.reverse := by rw [hr]; simp
        rw [hw1]
        refine ⟨⟨⟩, by dsimp only; rw [List.length_map, List.length_reverse, List.length_cons, List.length_cons]; omega, ?_⟩
        conv => whnf
        refine ⟨⟨⟩, by dsimp only; rw [tk]; simp only [List.length_map, List.length_reverse, List.length_cons, List.length_nil]; omega, ?_⟩
        conv => whnf
        refine ⟨l.length - (k + 1), by omega, k + 1, nodeT o.k a b :: S, rfl, by omega, by simpa using he, ht, ?_, by simp; omega, ?_⟩
        · simp only [List.map_cons, List.sum_cons, nodeT, List.length_append, List.length_cons, List.length_nil, hol]; omega
        · have en : nodeT o.k a b = [40] ++ a ++ ([32] ++ opT o.k ++ [32]) ++ b ++ [41] := by simp [nodeT]
          rw [hw4, en, show strV (([40] ++ a ++ ([32] ++ opT o.k ++ [32]) ++ b ++ [41]) :: S).reverse = strV S.reverse ++ [[.str ([40] ++ a ++ ([32] ++ opT o.k ++ [32]) ++ b ++ [41])]] from by rw [List.reverse_cons]; exact List.map_append, tk]
    · have h1 := of_decide_eq_false h1
      have hdr : l.drop k = [] := List.drop_eq_nil_iff.2 (by rw [List.length_map] at h1; omega)
      rw [hdr, depGo] at he
      rw [hdr, xtGo] at ht
      match S, he, ht with
      | [T], _, ht =>
        conv => whnf
        refine ⟨⟨⟩, by simp, ?_⟩
        conv => whnf
        refine ⟨_, rfl, ?_⟩
        conv => whnf
        refine fin0 ?_ trivial
        unfold exprT; rw [ht]; rfl
      | [], he, _ => rw [hd] at he; simp at he
      | _ :: _ :: _, he, _ => rw [hd] at he; simp at he
end Go.PV
namespace Go.PV
open Go Go.Proofs
set_option maxRecDepth 100000
/-- parts behind a mark, so far -/
def accL : List Bs → Bs
  | [] => []
  | p :: r => [32] ++ p ++ Lib.joinTail [44, 32] r
theorem accL_snoc (ps : List Bs) (p : Bs) : accL (ps ++ [p]) = accL ps ++ (if ps = [] then [] else [44]) ++ [32] ++ p := by
  cases ps with
  | nil => simp [accL, Lib.joinTail]
  | cons q r => simp [accL, Lib.joinTail]
theorem accL_end {ps : List Bs} (h : ps ≠ []) : accL ps = [32] ++ Lib.join ps [44, 32] := by
  cases ps with
  | nil => exact absurd rfl h
  | cons q r => simp [accL, Lib.join_cons]
theorem accL_len (ps : List Bs) (b : Nat) (h : ∀ p ∈ ps, p.length ≤ b) : (accL ps).length ≤ (b + 2) * ps.length := by
  have := accS_len [] ps b h
  cases ps with
  | nil => simp [accL]
  | cons q r =>
    simp only [accS, accL, List.length_append, List.length_cons, List.length_nil] at this ⊢
    omega
theorem ruleT_acc (r : Rul) (h1 : r.c ≠ []) (h2 : r.a ≠ []) : ruleT r = [114, 117, 108, 101, 32] ++ r.n ++ [32] ++ Lib.itoa r.p ++ [58] ++ accL (r.c.map condT) ++ [32, 45, 62] ++ accL (r.a.map actT) ++ [46] := by
  rw [accL_end (by simpa using h1), accL_end (by simpa using h2)]
  unfold ruleT
  simp [List.append_assoc]
theorem qruleT_good (r : Rul) (hb : rulB r) (hk : ruleOk r = true) : Good Tryz.prog 61 [.agg r.v] [] [.str (ruleT r)] [] := by
  obtain ⟨b1, b2, b3, b4, b5⟩ := hb
  obtain ⟨h1, h2, h3, h4, h5, h6, h7, h8, h9, h10⟩ := ruleOk_all hk
  obtain ⟨l1, l2, l3, l4, l5⟩ := ruleT_len hk
  have hh := hasN_len r.c
  have eT := ruleT_acc r (by intro e; rw [e] at h4; simp at h4) (by intro e; rw [e] at h7; simp at h7)
  rw [eT]
  obtain ⟨n, p, c, a⟩ := r
  dsimp only at b1 b2 b3 b4 b5 h1 h2 h3 h4 h5 h6 h7 h8 h9 h10 l2 l3 l4 l5 hh eT
  refine good_of hP Tryz.func61 (by kernel_rfl) (lv := [0, 1, 2, 3, 4, 5, 6, 7, 8, 22, 31, 35, 53, 61, 75, 84, 89, 105, 109, 125]) (js := [31, 84, 109]) ⟨rfl, rfl, rfl, rfl, rfl, rfl, _, rfl, ?_⟩
  have hcl : ∀ i : Nat, (accL ((c.take i).map condT)).length ≤ 4002 * 6 := fun i => by
    have := accL_len ((c.take i).map condT) 4000 (fun p hp => by
      obtain ⟨l, hl, rfl⟩ := List.mem_map.1 hp
      exact condT_len (h9 l (List.mem_of_mem_take hl)))
    rw [List.length_map, List.length_take] at this
    omega
  have hal : ∀ i : Nat, (accL ((a.take i).map actT)).length ≤ 10002 * 6 := fun i => by
    have := accL_len ((a.take i).map actT) 10000 (fun p hp => by
      obtain ⟨l, hl, rfl⟩ := List.mem_map.1 hp
      exact actT_len (by omega) (h10 l (List.mem_of_mem_take hl)))
    rw [List.length_map, List.length_take] at this
    omega
  conv => whnf
  refine ⟨⟨⟩, by show 5 + n.length ≤ 9223372036854775807; omega, ?_⟩
  conv => whnf
  refine ⟨⟨⟩, by show (([114, 117, 108, 101, 32] : Bs) ++ n).length + 1 ≤ 9223372036854775807; simp only [List.length_append, List.length_cons, List.length_nil]; omega, ?_⟩
  conv => whnf
  refine call0 (refDigits_good p (by unfold inR; rw [decide_eq_true_iff]; omega)) ?_
  conv => whnf
  refine ⟨⟨⟩, by show (([114, 117, 108, 101, 32] : Bs) ++ n ++ [32]).length + (Lib.itoa p).length ≤ 9223372036854775807; simp only [List.length_append, List.length_cons, List.length_nil]; omega, ?_⟩
  conv => whnf
  refine ⟨⟨⟩, by show (([114, 117, 108, 101, 32] : Bs) ++ n ++ [32] ++ Lib.itoa p).length + 1 ≤ 9223372036854775807; simp only [List.length_append, List.length_cons, List.length_nil]; omega, ?_⟩
  conv => whnf
  refine ⟨by kernel_rfl, ?_⟩
  conv => whnf
  have hB : (([114, 117, 108, 101, 32] : Bs) ++ n ++ [32] ++ Lib.itoa p ++ [58]).length ≤ 100 := by
    simp only [List.length_append, List.length_cons, List.length_nil]; omega
  generalize ([114, 117, 108, 101, 32] : Bs) ++ n ++ [32] ++ Lib.itoa p ++ [58] = B at *
  refine loop_of hP [0, 1, 2, 3, 4, 5, 6, 7, 8, 22, 31, 35, 53, 61, 75, 84, 89, 105, 109, 125] [31, 84, 109] [1, 2, 3, 4] [65] [] (fun mm st => ∃ i : Nat, mm = c.length - i ∧ i ≤ c.length ∧ st = ⟨[(1, .ptr 65 0 0), (2, .str []), (3, .str (B ++ accL ((c.take i).map condT))), (4, .int .i64 i)], [(65, .box 0 (Rul.v ⟨n, p, c, a⟩))]⟩) c.length ?_ ?_
  · conv => whnf
    exact ⟨0, rfl, Nat.zero_le _, by show _ = (⟨[_, _, (3, .str (B ++ [])), _], _⟩ : St); rw [List.append_nil]; rfl⟩
  · rintro mm st ⟨i, rfl, hi, rfl⟩
    have hci := hcl i
    conv => whnf
    refine branch_of (fun h => ?_) (fun h => ?_)
    · have h := of_decide_eq_true h
      rw [List.length_map] at h
      have hi' : i < c.length := h4 |> fun _ => by dsimp only at h; omega
      have hm := List.getElem_mem hi'
      have hck := h9 _ hm
      have hcb := b3 _ hm
      have hsn : accL ((c.take (i + 1)).map condT) = accL ((c.take i).map condT) ++ (if (c.take i).map condT = [] then [] else [44]) ++ [32] ++ condT c[i] := by
        rw [map_snoc _ c hi', accL_snoc]
      have hw : IntKind.i64.wrap ((i : Int) + 1) = ((i + 1 : Nat) : Int) := by rw [wr (by omega) (by omega)]; rfl
      have ix := idxM (f := Cnd.c) hi' (x := (i : Int)) rfl
      conv => whnf
      refine ⟨Cnd.c c[i], ix, ?_⟩
      conv => whnf
      generalize hci0 : accL ((c.take i).map condT) = Z at *
      generalize hq : (if (c.take i).map condT = [] then ([] : Bs) else [44]) = q at *
      have hql : q.length ≤ 1 := by rw [← hq]; split <;> simp
      generalize c[i] = x at *
      refine seq_of hP [0, 1, 2, 3, 4, 5, 6, 7, 8, 22, 31, 35, 53, 61, 75, 84, 89, 105, 109, 125] [31, 84, 109] [1, 2, 3, 4, 5] [65, 69] [] (fun st => st = ⟨[(1, .ptr 65 0 0), (2, .str []), (3, .str (B ++ Z ++ q)), (4, .int .i64 i), (5, .ptr 69 0 0)], [(65, .box 0 (Rul.v ⟨n, p, c, a⟩)), (69, .box 0 x.c)]⟩) ?_ ?_
      · conv => whnf
        refine branch_of (fun g => ?_) (fun g => ?_)
        · have g := of_decide_eq_true g
          rw [if_neg (by rw [List.map_eq_nil_iff, List.take_eq_nil_iff]; rintro (e | e); omega; rw [e] at hi'; simp at hi')] at hq
          subst hq
          conv => whnf
          refine ⟨⟨⟩, by show (B ++ Z).length + 1 ≤ 9223372036854775807; rw [List.length_append]; omega, ?_⟩
          conv => whnf
        · have g := of_decide_eq_false g
          have hi0 : i = 0 := by omega
          rw [if_pos (by rw [hi0]; rfl)] at hq
          subst hq
          conv => whnf
          rw [List.append_nil]
      · rintro st rfl
        have h3 := condOk_3 hck
        have hn := condOk_n hck
        obtain ⟨k, A, hh', L, R'⟩ := x
        obtain ⟨c1, c2, c3, c4, c5, c6, c7⟩ := hcb
        dsimp only at c1 c2 c3 c4 c5 c6 c7 h3 hn
        have hct : condT ⟨k, A, hh', L, R'⟩ = if k = 3 then [91] ++ exprT L ++ [32] ++ wayT hh' ++ [32] ++ exprT R' ++ [93] else if k = 2 then [110, 111, 116, 32] ++ atomT A else atomT A := rfl
        rw [hct] at hsn
        conv => whnf
        refine branch_of (fun g1 => ?_) (fun g1 => ?_)
        · have g1 : k = 1 := of_decide_eq_true g1
          obtain ⟨_, _, _, _, q1⟩ := hn (by omega)
          have la := atomT_len q1
          rw [if_neg (by omega), if_neg (by omega)] at hsn
          conv => whnf
          refine ⟨⟨⟩, by show (B ++ Z ++ q).length + 1 ≤ 9223372036854775807; simp only [List.length_append]; omega, ?_⟩
          conv => whnf
          refine call0 (qatomT_good A q1) ?_
          conv => whnf
          refine ⟨⟨⟩, by show (B ++ Z ++ q ++ [32]).length + (atomT A).length ≤ 9223372036854775807; simp only [List.length_append, List.length_cons, List.length_nil]; omega, ?_⟩
          conv => whnf
          refine ⟨c.length - (i + 1), by omega, i + 1, rfl, by omega, ?_⟩
          rw [hsn, hw]
          simp only [List.append_assoc]
        have g1 : ¬ k = 1 := of_decide_eq_false g1
        conv => whnf
        refine branch_of (fun g2 => ?_) (fun g2 => ?_)
        · have g2 : k = 2 := of_decide_eq_true g2
          obtain ⟨_, _, _, _, q1⟩ := hn (by omega)
          have la := atomT_len q1
          rw [if_neg (by omega), if_pos (by omega)] at hsn
          conv => whnf
          refine ⟨⟨⟩, by show (B ++ Z ++ q).length + 5 ≤ 9223372036854775807; simp only [List.length_append]; omega, ?_⟩
          conv => whnf
          refine call0 (qatomT_good A q1) ?_
          conv => whnf
          refine ⟨⟨⟩, by show (B ++ Z ++ q ++ [32, 110, 111, 116, 32]).length + (atomT A).length ≤ 9223372036854775807; simp only [List.length_append, List.length_cons, List.length_nil]; omega, ?_⟩
          conv => whnf
          refine ⟨c.length - (i + 1), by omega, i + 1, rfl, by omega, ?_⟩
          rw [hsn, hw]
          simp only [List.append_assoc]
          rfl
        have g2 : ¬ k = 2 := of_decide_eq_false g2
        have hk3 : k = 3 := by
          unfold condOk at hck
          by_cases e : k = 3
          · exact e
          · exact absurd (hn e).1 (by omega)
        obtain ⟨_, q1, q2, q3, q4⟩ := h3 hk3
        have la := exprT_len q3
        have lb := exprT_len q4
        rw [if_pos hk3] at hsn
        have hwl := wayT_len hh'
        have gw : (strV [[], [32, 61, 32], [32, 33, 61, 32], [32, 60, 32], [32, 60, 61, 32]])[hh'.toNat]? = some [.str ([32] ++ wayT hh' ++ [32])] := by
          have : hh' = 1 ∨ hh' = 2 ∨ hh' = 3 ∨ hh' = 4 := by omega
          rcases this with e | e | e | e <;> rw [e] <;> rfl
        conv => whnf
        refine ⟨⟨⟩, by show (B ++ Z ++ q).length + 2 ≤ 9223372036854775807; simp only [List.length_append]; omega, ?_⟩
        conv => whnf
        refine call0 (qexprT_good L ⟨c4, c5⟩ q3) ?_
        conv => whnf
        refine ⟨⟨⟩, by show (B ++ Z ++ q ++ [32, 91]).length + (exprT L).length ≤ 9223372036854775807; simp only [List.length_append, List.length_cons, List.length_nil]; omega, ?_⟩
        conv => whnf
        refine ⟨⟨⟩, by dsimp only; simp only [List.length_cons, List.length_nil]; omega, ?_⟩
        conv => whnf
        refine ⟨[.str ([32] ++ wayT hh' ++ [32])], gw, ?_⟩
        conv => whnf
        generalize wayT hh' = w at *
        refine ⟨⟨⟩, by show (B ++ Z ++ q ++ [32, 91] ++ exprT L).length + ([32] ++ w ++ [32]).length ≤ 9223372036854775807; simp only [List.length_append, List.length_cons, List.length_nil]; omega, ?_⟩
        conv => whnf
        refine call0 (qexprT_good R' ⟨c6, c7⟩ q4) ?_
        conv => whnf
        refine ⟨⟨⟩, by show (B ++ Z ++ q ++ [32, 91] ++ exprT L ++ ([32] ++ w ++ [32])).length + (exprT R').length ≤ 9223372036854775807; simp only [List.length_append, List.length_cons, List.length_nil]; omega, ?_⟩
        conv => whnf
        refine ⟨⟨⟩, by show (B ++ Z ++ q ++ [32, 91] ++ exprT L ++ ([32] ++ w ++ [32]) ++ exprT R').length + 1 ≤ 9223372036854775807; simp only [List.length_append, List.length_cons, List.length_nil]; omega, ?_⟩
        conv => whnf
        refine ⟨by kernel_rfl, ?_⟩
        conv => whnf
        refine ⟨c.length - (i + 1), by omega, i + 1, rfl, by omega, ?_⟩
        rw [hsn, hw]
        simp only [List.append_assoc]
        rfl
    · have h := of_decide_eq_false h
      rw [List.length_map] at h
      have e : c.take i = c := List.take_of_length_le (by dsimp only at h; omega)
      rw [e] at hci ⊢
      conv => whnf
      refine ⟨⟨⟩, by show (B ++ accL (c.map condT)).length + 3 ≤ 9223372036854775807; simp only [List.length_append]; omega, ?_⟩
      conv => whnf
      have hB2 : (B ++ accL (c.map condT) ++ [32, 45, 62]).length ≤ 30000 := by
        simp only [List.length_append, List.length_cons, List.length_nil]; omega
      generalize B ++ accL (c.map condT) ++ [32, 45, 62] = B2 at *
      refine loop_of hP [0, 1, 2, 3, 4, 5, 6, 7, 8, 22, 31, 35, 53, 61, 75, 84, 89, 105, 109, 125] [31, 84, 109] [1, 2, 3, 6] [65] [] (fun mm st => ∃ i : Nat, mm = a.length - i ∧ i ≤ a.length ∧ st = ⟨[(1, .ptr 65 0 0), (2, .str []), (3, .str (B2 ++ accL ((a.take i).map actT))), (6, .int .i64 i)], [(65, .box 0 (Rul.v ⟨n, p, c, a⟩))]⟩) a.length ?_ ?_
      · conv => whnf
        exact ⟨0, rfl, Nat.zero_le _, by show _ = (⟨[_, _, (3, .str (B2 ++ [])), _], _⟩ : St); rw [List.append_nil]; rfl⟩
      · rintro mm st ⟨j, rfl, hj, rfl⟩
        have haj := hal j
        conv => whnf
        refine branch_of (fun g => ?_) (fun g => ?_)
        · have g := of_decide_eq_true g
          rw [List.length_map] at g
          have hj' : j < a.length := by dsimp only at g; omega
          have hm := List.getElem_mem hj'
          have hak := h10 _ hm
          have hab := b5 _ hm
          have hsn : accL ((a.take (j + 1)).map actT) = accL ((a.take j).map actT) ++ (if (a.take j).map actT = [] then [] else [44]) ++ [32] ++ actT a[j] := by
            rw [map_snoc _ a hj', accL_snoc]
          have hw : IntKind.i64.wrap ((j : Int) + 1) = ((j + 1 : Nat) : Int) := by rw [wr (by omega) (by omega)]; rfl
          have ix := idxM (f := Act.c) hj' (x := (j : Int)) rfl
          conv => whnf
          refine ⟨Act.c a[j], ix, ?_⟩
          conv => whnf
          generalize hci0 : accL ((a.take j).map actT) = Z at *
          generalize hq : (if (a.take j).map actT = [] then ([] : Bs) else [44]) = q at *
          have hql : q.length ≤ 1 := by rw [← hq]; split <;> simp
          generalize a[j] = x at *
          refine seq_of hP [0, 1, 2, 3, 4, 5, 6, 7, 8, 22, 31, 35, 53, 61, 75, 84, 89, 105, 109, 125] [31, 84, 109] [1, 2, 3, 6, 7] [65, 71] [] (fun st => st = ⟨[(1, .ptr 65 0 0), (2, .str []), (3, .str (B2 ++ Z ++ q)), (6, .int .i64 j), (7, .ptr 71 0 0)], [(65, .box 0 (Rul.v ⟨n, p, c, a⟩)), (71, .box 0 x.c)]⟩) ?_ ?_
          · conv => whnf
            refine branch_of (fun g => ?_) (fun g => ?_)
            · have g := of_decide_eq_true g
              rw [if_neg (by rw [List.map_eq_nil_iff, List.take_eq_nil_iff]; rintro (e | e); omega; rw [e] at hj'; simp at hj')] at hq
              subst hq
              conv => whnf
              refine ⟨⟨⟩, by show (B2 ++ Z).length + 1 ≤ 9223372036854775807; rw [List.length_append]; omega, ?_⟩
              conv => whnf
            · have g := of_decide_eq_false g
              have hi0 : j = 0 := by omega
              rw [if_pos (by rw [hi0]; rfl)] at hq
              subst hq
              conv => whnf
              rw [List.append_nil]
          · rintro st rfl
            have y2 := actOk_2 hak
            have y1 := actOk_1 hak
            have yl := actT_len (by omega) hak
            obtain ⟨k, N, A, w⟩ := x
            obtain ⟨c1, c2, c3⟩ := hab
            dsimp only at c1 c2 c3 y1 y2
            have hct : actT ⟨k, N, A, w⟩ = if k = 2 then [100, 114, 111, 112, 32] ++ Lib.itoa w else if A = [] then [43] ++ N else [43] ++ N ++ [40] ++ Lib.join (A.map exprT) [44, 32] ++ [41] := rfl
            rw [hct] at hsn
            conv => whnf
            refine branch_of (fun g2 => ?_) (fun g2 => ?_)
            · have g2 : k = 2 := of_decide_eq_true g2
              obtain ⟨_, _, q1, q2⟩ := y2 g2
              have la := itoa_len (n := w) (by unfold inR; rw [decide_eq_true_iff]; omega)
              rw [if_pos g2] at hsn
              conv => whnf
              refine ⟨⟨⟩, by show (B2 ++ Z ++ q).length + 6 ≤ 9223372036854775807; simp only [List.length_append]; omega, ?_⟩
              conv => whnf
              refine call0 (refDigits_good w (by unfold inR; rw [decide_eq_true_iff]; omega)) ?_
              conv => whnf
              refine ⟨⟨⟩, by show (B2 ++ Z ++ q ++ [32, 100, 114, 111, 112, 32]).length + (Lib.itoa w).length ≤ 9223372036854775807; simp only [List.length_append, List.length_cons, List.length_nil]; omega, ?_⟩
              conv => whnf
              refine ⟨a.length - (j + 1), by omega, j + 1, rfl, by omega, ?_⟩
              rw [hsn, hw]
              simp only [List.append_assoc]
              rfl
            have g2 : ¬ k = 2 := of_decide_eq_false g2
            obtain ⟨_, q1, _, q3, q4⟩ := y1 g2
            have hN := name_len q1
            rw [if_neg g2] at hsn
            conv => whnf
            refine ⟨⟨⟩, by show (B2 ++ Z ++ q).length + 2 ≤ 9223372036854775807; simp only [List.length_append]; omega, ?_⟩
            conv => whnf
            refine ⟨⟨⟩, by show (B2 ++ Z ++ q ++ [32, 43]).length + N.length ≤ 9223372036854775807; simp only [List.length_append, List.length_cons, List.length_nil]; omega, ?_⟩
            conv => whnf
            have hM : (B2 ++ Z ++ q ++ [32, 43] ++ N).length ≤ 100000 := by
              simp only [List.length_append, List.length_cons, List.length_nil]; omega
            have hsn2 : B2 ++ accL ((a.take (j + 1)).map actT) = if A = [] then B2 ++ Z ++ q ++ [32, 43] ++ N else accS (B2 ++ Z ++ q ++ [32, 43] ++ N) (A.map exprT) ++ [41] := by
              rw [hsn]
              split
              · simp only [List.append_assoc]; rfl
              · rename_i hA
                rw [accS_end _ (by simpa using hA)]
                simp only [List.append_assoc]; rfl
            generalize B2 ++ Z ++ q ++ [32, 43] ++ N = M at *
            have hmb : ∀ k : Nat, (accS M ((A.take k).map exprT)).length ≤ 100000 + 1952 * 5 := fun k => by
              have := accS_len M ((A.take k).map exprT) 1950 (fun p hp => by
                obtain ⟨l, hl, rfl⟩ := List.mem_map.1 hp
                exact exprT_len (List.all_eq_true.1 q4 l (List.mem_of_mem_take hl)))
              rw [List.length_map, List.length_take] at this
              omega
            refine loop_of hP [0, 1, 2, 3, 4, 5, 6, 7, 8, 22, 31, 35, 53, 61, 75, 84, 89, 105, 109, 125] [31, 84, 109] [1, 2, 3, 6, 7, 8] [65, 71] [] (fun mm st => ∃ i : Nat, mm = A.length - i ∧ i ≤ A.length ∧ st = ⟨[(1, .ptr 65 0 0), (2, .str []), (3, .str (accS M ((A.take i).map exprT))), (6, .int .i64 j), (7, .ptr 71 0 0), (8, .int .i64 i)], [(65, .box 0 (Rul.v ⟨n, p, c, a⟩)), (71, .box 0 (Act.c ⟨k, N, A, w⟩))]⟩) A.length ?_ ?_
            · conv => whnf
              exact ⟨0, rfl, Nat.zero_le _, rfl⟩
            · rintro mm st ⟨i, rfl, hi, rfl⟩
              have hmi := hmb i
              conv => whnf
              refine branch_of (fun u => ?_) (fun u => ?_)
              · have u := of_decide_eq_true u
                rw [List.length_map] at u
                have hi' : i < A.length := by dsimp only at u; omega
                have hme := List.getElem_mem hi'
                have hxk := List.all_eq_true.1 q4 _ hme
                have hxb := c3 _ hme
                have hxl := exprT_len hxk
                have hss : accS M ((A.take (i + 1)).map exprT) = accS M ((A.take i).map exprT) ++ (if (A.take i).map exprT = [] then [40] else [44, 32]) ++ exprT A[i] := by
                  rw [map_snoc _ A hi', accS_snoc]
                have hwi : IntKind.i64.wrap ((i : Int) + 1) = ((i + 1 : Nat) : Int) := by rw [wr (by omega) (by omega)]; rfl
                have iy := idxM (f := fun x : List Stp => [V.sl 5 (stpV x)]) hi' (x := (i : Int)) rfl
                conv => whnf
                generalize accS M ((A.take i).map exprT) = Y at *
                generalize hq2 : (if (A.take i).map exprT = [] then ([40] : Bs) else [44, 32]) = q' at *
                have hql2 : q'.length ≤ 2 := by rw [← hq2]; split <;> simp
                generalize A[i] = x at *
                refine seq_of hP [0, 1, 2, 3, 4, 5, 6, 7, 8, 22, 31, 35, 53, 61, 75, 84, 89, 105, 109, 125] [31, 84, 109] [1, 2, 3, 6, 7, 8] [65, 71] [] (fun st => st = ⟨[(1, .ptr 65 0 0), (2, .str []), (3, .str (Y ++ q')), (6, .int .i64 j), (7, .ptr 71 0 0), (8, .int .i64 i)], [(65, .box 0 (Rul.v ⟨n, p, c, a⟩)), (71, .box 0 (Act.c ⟨k, N, A, w⟩))]⟩) ?_ ?_
                · conv => whnf
                  refine branch_of (fun v => ?_) (fun v => ?_)
                  · have v := of_decide_eq_true v
                    have hi0 : i = 0 := by omega
                    rw [if_pos (by rw [hi0]; rfl)] at hq2
                    subst hq2
                    conv => whnf
                    refine ⟨⟨⟩, by dsimp only; simp only [List.length_cons, List.length_nil]; omega, ?_⟩
                    conv => whnf
                  · have v := of_decide_eq_false v
                    rw [if_neg (by rw [List.map_eq_nil_iff, List.take_eq_nil_iff]; rintro (e | e); exact v (by omega); rw [e] at hi'; simp at hi')] at hq2
                    subst hq2
                    conv => whnf
                    refine ⟨⟨⟩, by dsimp only; simp only [List.length_cons, List.length_nil]; omega, ?_⟩
                    conv => whnf
                · rintro st rfl
                  conv => whnf
                  refine ⟨[V.sl 5 (stpV x)], iy, ?_⟩
                  conv => whnf
                  refine call0 (qexprT_good x hxb hxk) ?_
                  conv => whnf
                  refine ⟨⟨⟩, by show (Y ++ q').length + (exprT x).length ≤ 9223372036854775807; simp only [List.length_append]; omega, ?_⟩
                  conv => whnf
                  refine ⟨A.length - (i + 1), by omega, i + 1, rfl, by omega, ?_⟩
                  rw [hss, hwi]
              · have u := of_decide_eq_false u
                rw [List.length_map] at u
                have e2 : A.take i = A := List.take_of_length_le (by dsimp only at u; omega)
                rw [e2] at hmi ⊢
                conv => whnf
                refine branch_of (fun v => ?_) (fun v => ?_)
                · have v := of_decide_eq_true v
                  rw [List.length_map] at v
                  have hne : A ≠ [] := by rintro rfl; exact absurd v (by simp)
                  rw [if_neg hne] at hsn2
                  conv => whnf
                  refine ⟨⟨⟩, by show (accS M (A.map exprT)).length + 1 ≤ 9223372036854775807; omega, ?_⟩
                  conv => whnf
                  refine ⟨a.length - (j + 1), by omega, j + 1, rfl, by omega, ?_⟩
                  rw [hsn2, hw]
                · have v := of_decide_eq_false v
                  rw [List.length_map] at v
                  have hne : A = [] := List.eq_nil_of_length_eq_zero (by dsimp only at v; omega)
                  rw [if_pos hne] at hsn2
                  conv => whnf
                  refine ⟨a.length - (j + 1), by omega, j + 1, rfl, by omega, ?_⟩
                  rw [hsn2, hw]
                  subst hne
                  rfl
        · have g := of_decide_eq_false g
          rw [List.length_map] at g
          have e : a.take j = a := List.take_of_length_le (by dsimp only at g; omega)
          rw [e] at haj ⊢
          conv => whnf
          refine ⟨⟨⟩, by show (B2 ++ accL (a.map actT)).length + 1 ≤ 9223372036854775807; simp only [List.length_append]; omega, ?_⟩
          conv => whnf
          exact fin0 rfl trivial
end Go.PV
namespace Go.PV
open Go Go.Proofs
set_option maxRecDepth 100000
theorem atmH_B {a : Atm} (h : atmH a = false) : atmB a := by
  unfold atmH trmH at h
  simp at h
  obtain ⟨⟨h1, h2⟩, h3⟩ := h
  exact ⟨by omega, by omega, fun t ht => by have := h3 t ht; exact ⟨by omega, by omega⟩⟩
theorem opsH_B {l : List Stp} (h : opsH l = false) : opsB l := by
  unfold opsH stpH at h
  simp at h
  obtain ⟨h1, h3⟩ := h
  exact ⟨by omega, fun t ht => by have := h3 t ht; exact ⟨by omega, by omega⟩⟩
theorem toksH_B {l : List Tok} (h : toksH l = false) : tokB l := by
  unfold toksH tokH at h
  simp at h
  obtain ⟨h1, h3⟩ := h
  exact ⟨by omega, fun t ht => by have := h3 t ht; omega⟩
theorem tokB_len {l : List Tok} (h : tokB l) : l.length ≤ 1000000 := h.1
end Go.PV
namespace Go.PV
open Go Go.Proofs
set_option maxRecDepth 100000
theorem rulesBack_good (a b : Rul) (l : List Tok) (i : Int) {p1 p2 : Prop} (_ : p1) (_ : p2) (_ : l.length ≤ maxLen) {p : Tok → Prop} (_ : ∀ v ∈ l, p v) (_ : (Lit.int .i64 i).wf = true) : Good Tryz.prog 12 [.agg a.v, .agg b.v, .sl 4 (toksV l), .int .i64 i] [] [.bool true] [] := by
  refine good_of hP Tryz.func12 (by kernel_rfl) (lv := [0, 1, 2, 3, 4, 5, 8, 9, 10, 11, 12, 13, 14, 15, 16, 17, 18, 19, 20, 21, 31, 40, 77, 93]) (js := [40]) ⟨rfl, rfl, rfl, rfl, rfl, rfl, _, rfl, ?_⟩
  conv => whnf
  refine call0 (heavyR_good a) ?_
  cases ha : rulH a with
  | true =>
    conv => whnf
    exact fin0 rfl trivial
  | false =>
  have hab := rulH_B ha
  conv => whnf
  refine call0 (heavyR_good b) ?_
  cases hb : rulH b with
  | true =>
    conv => whnf
    exact fin0 rfl trivial
  | false =>
  have hbb := rulH_B hb
  conv => whnf
  refine call0 (heavyT_good l) ?_
  cases ht : toksH l with
  | true =>
    conv => whnf
    exact fin0 rfl trivial
  | false =>
  have htb := toksH_B ht
  conv => whnf
  refine seq_of hP [0, 1, 2, 3, 4, 5, 8, 9, 10, 11, 12, 13, 14, 15, 16, 17, 18, 19, 20, 21, 31, 40, 77, 93] [40] [4, 5, 8] [68, 69] [] (fun st => st = ⟨[(4, .ptr 68 0 0), (5, .ptr 69 0 0), (8, .bool false)], [(68, .box 0 a.v), (69, .box 0 b.v)]⟩) ?_ ?_
  · by_cases hi : 0 ≤ i ∧ i ≤ l.length
    · obtain ⟨n, rfl⟩ : ∃ n : Nat, i = n := ⟨i.toNat, by omega⟩
      conv => whnf
      refine call0 (readR_good l n htb (by omega)) ?_
      have hs : rulB (readR l n).1 ∨ (readR l n).2.2 ≠ 0 := by
        have := Rd.rule_s (rd0 l n)
        unfold readR
        dsimp only
        split
        · split
          · exact .inl this
          · exact .inr (by simp)
        · exact .inr (by simp)
      have hok := @readR_ok l n
      generalize readR l n = z at *
      conv => whnf
      refine branch_of (fun h => ?_) (fun h => ?_)
      · have h := of_decide_eq_true h
        obtain ⟨k1, k2, k3⟩ := hok h
        have hzb : rulB z.1 := by rcases hs with hs | hs; exact hs; exact absurd h hs
        conv => whnf
        refine call0 (rtext_good z.1 hzb) ?_
        rcases ruleE_cases z.1 with ⟨c1, c2, c3, c4⟩ | ⟨c1, c2, c3, c4⟩
        · rw [c1, c4]
          conv => whnf
          refine call0 (parseR_good (ruleT z.1) c3) ?_
          rw [parse_rule c2]
          conv => whnf
          refine call0 (keepRule_good z.1 z.1 hzb) ?_
          rw [decide_eq_true rfl]
          conv => whnf
          refine branch_of (fun q => ?_) (fun q => ?_)
          · have q := of_decide_eq_true q; omega
          conv => whnf
          refine branch_of (fun q => ?_) (fun q => ?_)
          · have q := of_decide_eq_true q
            rw [List.length_map] at q; omega
          conv => whnf
        · rw [(c3 k1).1, c2]
          conv => whnf
          refine call0 (parseR_good [] (by decide)) ?_
          generalize parseR [] = y
          conv => whnf
          refine branch_of (fun q => ?_) (fun q => ?_)
          · have q := of_decide_eq_true q; omega
          conv => whnf
          refine branch_of (fun q => ?_) (fun q => ?_)
          · have q := of_decide_eq_true q
            rw [List.length_map] at q; omega
          conv => whnf
      · conv => whnf
    · conv => whnf
      refine call0 (readR_bad l i htb.1 hi) ?_
      conv => whnf
  rintro st rfl
  conv => whnf
  refine call0 (rtext_good a hab) ?_
  conv => whnf
  refine call0 (rtext_good b hbb) ?_
  rcases ruleE_cases a with ⟨c1, c2, c3, c4⟩ | ⟨c1, c2, c3, c4⟩
  · rcases ruleE_cases b with ⟨d1, d2, d3, d4⟩ | ⟨d1, d2, d3, d4⟩
    · rw [c1, c4, d1, d4]
      conv => whnf
      refine call0 (parseR_good (ruleT a) c3) ?_
      rw [parse_rule c2]
      conv => whnf
      refine call0 (keepRule_good a a hab) ?_
      rw [decide_eq_true rfl]
      conv => whnf
      refine call0 (keepRule_good a b hab) ?_
      have e := ruleT_inj c2 d2
      conv => whnf
      have e2 : (decide (a = b) == decide (a = b)) = true := by simp
      rw [e, e2]
      conv => whnf
      refine call0 (wakes11_good) ?_
      conv => whnf
      exact fin0 rfl trivial
    · rw [c1, c4, d2]
      conv => whnf
      refine branch_of (fun q => ?_) (fun q => ?_)
      · conv => whnf
        refine branch_of (fun q2 => ?_) (fun q2 => ?_)
        · exact absurd (of_decide_eq_true q2) d1
        · conv => whnf
          refine call0 (wakes11_good) ?_
          conv => whnf
          exact fin0 rfl trivial
      · rw [Bool.not_eq_false'] at q
        exact absurd (of_decide_eq_true q) d1
  · rw [c2]
    conv => whnf
    refine branch_of (fun q => ?_) (fun q => ?_)
    · conv => whnf
      refine branch_of (fun q2 => ?_) (fun q2 => ?_)
      · exact absurd (of_decide_eq_true q2) c1
      conv => whnf
      rcases ruleE_cases b with ⟨d1, d2, d3, d4⟩ | ⟨d1, d2, d3, d4⟩
      · rw [d1]
        conv => whnf
        refine call0 (wakes11_good) ?_
        conv => whnf
        exact fin0 rfl trivial
      · rw [d2]
        refine branch_of (fun q3 => ?_) (fun q3 => ?_)
        · exact absurd (of_decide_eq_true q3) d1
        conv => whnf
        refine call0 (wakes11_good) ?_
        conv => whnf
        exact fin0 rfl trivial
    · rw [Bool.not_eq_false'] at q
      exact absurd (of_decide_eq_true q) c1
end Go.PV
namespace Go.PV
open Go Go.Proofs
set_option maxRecDepth 100000
theorem tokens_long (s : Bs) (hs : 20000 < s.length) (hs2 : s.length ≤ 1000000) : Good Tryz.prog 49 [.str s] [] [.sl 4 [], .agg [.int .i64 0, .int .i64 0], .int .i64 2] [] := by
  refine good_of hP Tryz.func49 (by kernel_rfl) (lv := [0, 2, 3, 4, 5, 6, 7, 10, 24, 36]) (js := []) ⟨rfl, rfl, rfl, rfl, rfl, rfl, _, rfl, ?_⟩
  conv => whnf
  refine branch_of (fun h => ?_) (fun h => ?_)
  · conv => whnf
    exact fin0 rfl trivial
  · have h := of_decide_eq_false h; omega
theorem rulesTwo_good (a b : Rul) {p1 p2 : Prop} (_ : p1) (_ : p2) : Good Tryz.prog 13 [.agg a.v, .agg b.v] [] [.bool true] [] := by
  refine good_of hP Tryz.func13 (by kernel_rfl) (lv := [0, 1, 2, 3, 4, 5, 6, 7, 8, 9, 11, 12, 13, 14, 15, 16, 17, 19, 35, 51, 79]) (js := []) ⟨rfl, rfl, rfl, rfl, rfl, rfl, _, rfl, ?_⟩
  conv => whnf
  refine call0 (heavyR_good a) ?_
  cases ha : rulH a with
  | true =>
    conv => whnf
    exact fin0 rfl trivial
  | false =>
  have hab := rulH_B ha
  conv => whnf
  refine call0 (heavyR_good b) ?_
  cases hb : rulH b with
  | true =>
    conv => whnf
    exact fin0 rfl trivial
  | false =>
  have hbb := rulH_B hb
  conv => whnf
  refine call0 (qrule_good a hab) ?_
  cases hka : ruleOk a with
  | false =>
    conv => whnf
    exact fin0 rfl trivial
  | true =>
  conv => whnf
  refine call0 (qrule_good b hbb) ?_
  cases hkb : ruleOk b with
  | false =>
    conv => whnf
    exact fin0 rfl trivial
  | true =>
  conv => whnf
  refine call0 (rtext_good a hab) ?_
  conv => whnf
  refine call0 (rtext_good b hbb) ?_
  rcases ruleE_cases a with ⟨c1, c2, c3, c4⟩ | ⟨c1, c2, c3, c4⟩
  · rcases ruleE_cases b with ⟨d1, d2, d3, d4⟩ | ⟨d1, d2, d3, d4⟩
    · rw [c1, c4, d1, d4]
      conv => whnf
      refine ⟨⟨⟩, by show (ruleT a).length + 1 ≤ 9223372036854775807; omega, ?_⟩
      conv => whnf
      refine ⟨⟨⟩, by show (ruleT a ++ [10]).length + (ruleT b).length ≤ 9223372036854775807; simp only [List.length_append, List.length_cons, List.length_nil]; omega, ?_⟩
      conv => whnf
      obtain ⟨h1, n, hn, r1, r2⟩ := read_two c2 d2
      have hpt := parse_two c2 d2
      rw [List.append_assoc]
      by_cases hlong : 20000 < (ruleT a ++ ([10] ++ ruleT b)).length
      · refine call0 (tokens_long (ruleT a ++ ([10] ++ ruleT b)) hlong (by simp only [List.length_append, List.length_cons, List.length_nil]; omega)) ?_
        simp only [List.length_append, List.length_cons, List.length_nil] at hlong
        conv => whnf
        refine branch_of (fun q => ?_) (fun q => ?_)
        · conv => whnf
          refine call0 (wakes11_good) ?_
          conv => whnf
          exact fin0 rfl trivial
        · have q := of_decide_eq_false q
          rw [wr (by omega) (by omega)] at q; omega
      · have hb1 := tokB_R (ruleT a ++ ([10] ++ ruleT b)) (by omega)
        refine call0 (tokens_good (ruleT a ++ ([10] ++ ruleT b)) (by omega)) ?_
        rw [h1]
        simp only [List.length_append, List.length_cons, List.length_nil] at hlong
        generalize toksR (ruleT a ++ ([10] ++ ruleT b)) = l at *
        generalize posR (ruleT a ++ ([10] ++ ruleT b)) = z1
        conv => whnf
        refine call0 (readR_good l 0 hb1 (Nat.zero_le _)) ?_
        rw [r1]
        conv => whnf
        refine call0 (readR_good l n hb1 hn) ?_
        rw [r2]
        conv => whnf
        refine ⟨⟨⟩, by dsimp only; omega, ?_⟩
        conv => whnf
        refine call0 (parseR_good (ruleT a ++ ruleT b) (by rw [List.length_append]; omega)) ?_
        rw [hpt]
        generalize (parseR (ruleT a ++ ruleT b)).1 = z2
        conv => whnf
        refine call0 (keepRule_good a a hab) ?_
        rw [decide_eq_true rfl]
        conv => whnf
        refine call0 (keepRule_good b b hbb) ?_
        rw [decide_eq_true rfl]
        conv => whnf
        refine branch_of (fun q => ?_) (fun q => ?_)
        · conv => whnf
          refine call0 (wakes11_good) ?_
          conv => whnf
          exact fin0 rfl trivial
        · have q := of_decide_eq_false q
          rw [List.length_map] at q; exact absurd rfl q
    · rw [c1, (d3 hkb).1]
      conv => whnf
      refine call0 (wakes11_good) ?_
      conv => whnf
      exact fin0 rfl trivial
  · rw [(c3 hka).1]
    conv => whnf
    rcases ruleE_cases b with ⟨d1, d2, d3, d4⟩ | ⟨d1, d2, d3, d4⟩
    · rw [d1]
      conv => whnf
      refine call0 (wakes11_good) ?_
      conv => whnf
      exact fin0 rfl trivial
    · rw [(d3 hkb).1]
      conv => whnf
      refine call0 (wakes11_good) ?_
      conv => whnf
      exact fin0 rfl trivial
end Go.PV
namespace Go.PV
open Go Go.Proofs
set_option maxRecDepth 100000
theorem twinOps_good (l : List Stp) (hl : l.length ≤ 1000000) : Good Tryz.prog 108 [.sl 5 (stpV l)] [] [.sl 5 (stpV l)] [] := by
  refine good_of hP Tryz.func108 (by kernel_rfl) (lv := [0, 2, 3]) (js := []) ⟨rfl, rfl, rfl, rfl, rfl, rfl, _, rfl, ?_⟩
  conv => whnf
  refine ⟨⟨⟩, by rw [List.length_map]; dsimp only; omega, ?_⟩
  conv => whnf
  exact fin0 rfl trivial
theorem twinAtom_good (f : Atm) (hl : f.a.length ≤ 1000000) : Good Tryz.prog 81 [.agg f.c] [] [.agg f.c] [] := by
  obtain ⟨n, l⟩ := f
  dsimp only at hl
  refine good_of hP Tryz.func81 (by kernel_rfl) (lv := [0, 1, 2, 3]) (js := []) ⟨rfl, rfl, rfl, rfl, rfl, rfl, _, rfl, ?_⟩
  conv => whnf
  refine ⟨⟨⟩, by rw [List.length_map]; dsimp only; omega, ?_⟩
  conv => whnf
  exact fin0 rfl trivial
theorem twinConds_own (l : List Cnd) (hl : l.length ≤ 1000000) (hb : ∀ c ∈ l, cndB c) : Good Tryz.prog 107 [.sl 6 (cndV l)] [] [.own 0 0] [.arr 0 false 6 (cndV l)] := by
  refine good_of hP Tryz.func107 (by kernel_rfl) (lv := [0, 2, 3, 4, 5, 9]) (js := []) ⟨rfl, rfl, rfl, rfl, rfl, rfl, _, rfl, ?_⟩
  conv => whnf
  refine loop_of hP [0, 2, 3, 4, 5, 9] [] [0, 2, 3, 4] [67] [.slot 3 6] (fun m st => ∃ k : Nat, m = l.length - k ∧ k ≤ l.length ∧ st = ⟨[(0, .sl 6 (cndV l)), (2, .nil), (3, .own 67 0), (4, .int .i64 k)], [(67, .arr 0 false 6 (cndV (l.take k)))]⟩) l.length ?_ ?_
  · conv => whnf
    exact ⟨0, rfl, Nat.zero_le _, rfl⟩
  · rintro m st ⟨k, rfl, hk, rfl⟩
    conv => whnf
    refine branch_of (fun h => ?_) (fun h => ?_)
    · have h := of_decide_eq_true h
      rw [List.length_map] at h
      have hk' : k < l.length := by omega
      obtain ⟨b1, b2, b3, b4, b5, b6, b7⟩ := hb _ (List.getElem_mem hk')
      conv => whnf
      refine ⟨Cnd.c l[k], idxM hk' rfl, ?_⟩
      conv => whnf
      refine call0 (twinAtom_good l[k].a b2) ?_
      conv => whnf
      refine call0 (twinOps_good l[k].l b4) ?_
      conv => whnf
      refine call0 (twinOps_good l[k].r b6) ?_
      conv => whnf
      refine ⟨by kernel_rfl, ?_⟩
      conv => whnf
      refine ⟨⟨⟩, by dsimp only; simp only [List.length_map, List.length_take, List.length_cons, List.length_nil]; omega, ?_⟩
      conv => whnf
      refine ⟨l.length - (k + 1), by omega, k + 1, rfl, by omega, ?_⟩
      rw [← List.take_append_getElem hk', show cndV (l.take k ++ [l[k]]) = cndV (l.take k) ++ [l[k].c] from List.map_append, wr (by omega) (by omega)]
      rfl
    · have h := of_decide_eq_false h
      rw [List.length_map] at h
      rw [List.take_of_length_le (by omega)]
      conv => whnf
      refine ⟨[(67, 0)], rfl, ?_⟩
      conv => whnf
      exact ⟨⟨⟩, rfl, trivial⟩
theorem twinRule_own (r : Rul) (hb : rulB r) : Good Tryz.prog 51 [.agg r.v] [] [.agg [.str r.n, .int .i64 r.p, .own 0 0, .own 1 0]] [.arr 0 false 6 (cndV r.c), .arr 0 false 4 (actV r.a)] := by
  obtain ⟨n, p, c, a⟩ := r
  obtain ⟨b1, b2, b3, b4, b5⟩ := hb
  dsimp only at b1 b2 b3 b4 b5
  refine good_of hP Tryz.func51 (by kernel_rfl) (lv := [0, 1, 2, 3, 4, 5, 6, 19, 36]) (js := []) ⟨rfl, rfl, rfl, rfl, rfl, rfl, _, rfl, ?_⟩
  conv => whnf
  refine call0 (twinConds_own c b2 b3) ?_
  conv => whnf
  refine ⟨by kernel_rfl, ?_⟩
  conv => whnf
  refine loop_of hP [0, 1, 2, 3, 4, 5, 6, 19, 36] [] [1, 2, 3, 4] [65, 66, 67, 1856, 104291] [.cell 67 3 4] (fun m st => ∃ k : Nat, m = a.length - k ∧ k ≤ a.length ∧ st = ⟨[(1, .ptr 65 0 0), (2, .ptr 66 0 0), (3, .ptr 67 0 0), (4, .int .i64 k)], [(65, .box 0 (Rul.v ⟨n, p, c, a⟩)), (66, .box 0 [.str [], .int .i64 0, .nil, .nil]), (67, .box 0 [.str n, .int .i64 p, .own 1856 0, .own 104291 0]), (1856, .arr 0 false 6 (cndV c)), (104291, .arr 0 false 4 (actV (a.take k)))]⟩) a.length ?_ ?_
  · conv => whnf
    exact ⟨0, rfl, Nat.zero_le _, rfl⟩
  · rintro m st ⟨k, rfl, hk, rfl⟩
    conv => whnf
    refine branch_of (fun h => ?_) (fun h => ?_)
    · have h := of_decide_eq_true h
      rw [List.length_map] at h
      have hk' : k < a.length := by dsimp only at h; omega
      have hbk := b5 _ (List.getElem_mem hk')
      conv => whnf
      refine ⟨Act.c a[k], idxM hk' rfl, ?_⟩
      conv => whnf
      generalize hx : a[k] = x at *
      obtain ⟨xk, xn, xa, xw⟩ := x
      obtain ⟨q1, q2, q3⟩ := hbk
      dsimp only at q1 q2 q3
      refine loop_of hP [0, 1, 2, 3, 4, 5, 6, 19, 36] [] [1, 2, 3, 4, 5, 6] [65, 66, 67, 69, 1856, 104291, 104418] [.cell 69 2 1] (fun m st => ∃ i : Nat, m = xa.length - i ∧ i ≤ xa.length ∧ st = ⟨[(1, .ptr 65 0 0), (2, .ptr 66 0 0), (3, .ptr 67 0 0), (4, .int .i64 k), (5, .ptr 69 0 0), (6, .int .i64 i)], [(65, .box 0 (Rul.v ⟨n, p, c, a⟩)), (66, .box 0 [.str [], .int .i64 0, .nil, .nil]), (67, .box 0 [.str n, .int .i64 p, .own 1856 0, .own 104291 0]), (69, .box 0 [.int .i64 xk, .str xn, .own 104418 0, .int .i64 xw]), (1856, .arr 0 false 6 (cndV c)), (104291, .arr 0 false 4 (actV (a.take k))), (104418, .arr 0 false 1 (opsV (xa.take i)))]⟩) xa.length ?_ ?_
      · conv => whnf
        exact ⟨0, rfl, Nat.zero_le _, rfl⟩
      · rintro m st ⟨i, rfl, hi, rfl⟩
        have hrow : (0 : Int) ≤ ((k : Nat) : Int) ∧ (actV a)[((k : Nat) : Int).toNat]? = some (Act.c ⟨xk, xn, xa, xw⟩) := by rw [← hx]; exact idxM hk' rfl
        conv => whnf
        refine ⟨Act.c ⟨xk, xn, xa, xw⟩, hrow, ?_⟩
        conv => whnf
        refine branch_of (fun q => ?_) (fun q => ?_)
        · have q := of_decide_eq_true q
          rw [List.length_map] at q
          have hi' : i < xa.length := by dsimp only at q; omega
          conv => whnf
          refine ⟨Act.c ⟨xk, xn, xa, xw⟩, hrow, ?_⟩
          conv => whnf
          refine ⟨[.sl 5 (stpV xa[i])], idxM (f := fun x : List Stp => [V.sl 5 (stpV x)]) hi' rfl, ?_⟩
          conv => whnf
          refine call0 (twinOps_good xa[i] (q3 _ (List.getElem_mem hi')).1) ?_
          conv => whnf
          refine ⟨⟨⟩, by dsimp only; simp only [List.length_map, List.length_take, List.length_cons, List.length_nil]; omega, ?_⟩
          conv => whnf
          refine ⟨by kernel_rfl, ?_⟩
          conv => whnf
          refine ⟨xa.length - (i + 1), by omega, i + 1, rfl, by omega, ?_⟩
          rw [← List.take_append_getElem hi', show opsV (xa.take i ++ [xa[i]]) = opsV (xa.take i) ++ [[.sl 5 (stpV xa[i])]] from List.map_append, wr (by omega) (by omega)]
          rfl
        · have q := of_decide_eq_false q
          rw [List.length_map] at q
          have ex : xa.take i = xa := List.take_of_length_le (by dsimp only at q; omega)
          rw [ex]
          conv => whnf
          refine ⟨⟨⟩, by dsimp only; simp only [List.length_map, List.length_take, List.length_cons, List.length_nil]; omega, ?_⟩
          conv => whnf
          refine ⟨a.length - (k + 1), by omega, k + 1, rfl, by omega, ?_⟩
          rw [← List.take_append_getElem hk', hx, show actV (a.take k ++ [⟨xk, xn, xa, xw⟩]) = actV (a.take k) ++ [Act.c ⟨xk, xn, xa, xw⟩] from List.map_append, wr (by omega) (by omega)]
          rfl
    · have h := of_decide_eq_false h
      rw [List.length_map] at h
      rw [List.take_of_length_le (by dsimp only at h; omega)]
      conv => whnf
      refine ⟨[(1856, 0), (104291, 0)], rfl, ?_⟩
      conv => whnf
      refine ⟨⟨⟩, rfl, ?_⟩
      conv => whnf
      exact ⟨⟨⟩, rfl, trivial⟩
end Go.PV
namespace Go.PV
open Go Go.Proofs
set_option maxRecDepth 100000
theorem cclos_nil (x : Act) (m : Int) (hb : actB x) (hx : x.a = []) : Good Tryz.prog 123 [.agg [.int .i64 x.k, .str x.n, .nil, .int .i64 x.w], .ptr 0 0 0] [.box 0 [.int .i64 m]] [.bool (!actOk m x)] [.box 0 [.int .i64 m]] := by
  obtain ⟨k, n, a, w⟩ := x
  dsimp only at hx
  subst hx
  refine good_of hP Tryz.func123 (by kernel_rfl) (lv := [0, 1, 2, 3]) (js := []) ⟨rfl, rfl, rfl, rfl, rfl, rfl, _, rfl, ?_⟩
  conv => whnf
  refine call0 (ract_good ⟨k, n, [], w⟩ m hb) ?_
  conv => whnf
  refine ⟨[], rfl, ?_⟩
  conv => whnf
  exact ⟨⟨⟩, rfl, trivial⟩
theorem indexAct_raw (L : List (List V)) (l : List Act) (hL : L.length = l.length) (hrow : ∀ (j : Nat) (h1 : j < L.length) (h2 : j < l.length), L[j] = l[j].c ∨ (l[j].a = [] ∧ L[j] = [.int .i64 l[j].k, .str l[j].n, .nil, .int .i64 l[j].w])) (hl : l.length ≤ 1000000) (g : FuncId) (m : Int) (p : Act → Bool) (hg : ∀ (j : Nat) (h1 : j < L.length) (h2 : j < l.length), Good Tryz.prog g [.agg L[j], .ptr 0 0 0] [.box 0 [.int .i64 m]] [.bool (p l[j])] [.box 0 [.int .i64 m]]) : Good Tryz.prog 188 [.sl 4 L, .fn g [.ptr 0 0 0]] [.box 0 [.int .i64 m]] [.int .i64 (match l.findIdx? p with | some i => (i : Int) | none => -1)] [.box 0 [.int .i64 m]] := by
  refine good_of hP Tryz.func188 (by kernel_rfl) (lv := [0, 1, 4, 5, 7, 8, 9, 16]) (js := []) ⟨rfl, rfl, rfl, rfl, rfl, rfl, _, rfl, ?_⟩
  conv => whnf
  refine loop_of hP [0, 1, 4, 5, 7, 8, 9, 16] [] [0, 1, 7, 8] [0] [] (fun n st => ∃ k : Nat, n = l.length - k ∧ k ≤ l.length ∧ (∀ j (h : j < l.length), j < k → p l[j] = false) ∧ st = ⟨[(0, .sl 4 L), (1, .fn g [.ptr 0 0 0]), (7, .int .i64 l.length), (8, .int .i64 k)], [(0, .box 0 [.int .i64 m])]⟩) l.length ?_ ?_
  · conv => whnf
    exact ⟨0, rfl, Nat.zero_le _, fun j _ h => by omega, by rw [← hL]; rfl⟩
  · rintro n st ⟨k, rfl, hk, hn, rfl⟩
    conv => whnf
    refine branch_of (fun h => ?_) (fun h => ?_)
    · have h := of_decide_eq_true h
      have hk' : k < l.length := by omega
      conv => whnf
      have hkL : k < L.length := by omega
      rcases hrow k hkL hk' with e | ⟨ez, e⟩
      · have hgk := hg k hkL hk'
        rw [e] at hgk
        refine ⟨Act.c l[k], ⟨by omega, by rw [Int.toNat_natCast, ← e]; exact List.getElem?_eq_getElem hkL⟩, ?_⟩
        conv => whnf
        refine callN [(0, 0)] (hgk) ?_ 
        conv => whnf
        refine ⟨⟨⟩, rfl, ?_⟩
        cases hp : p l[k] with
        | true =>
          have : l.findIdx? p = some k := by
            rw [List.findIdx?_eq_some_iff_getElem]
            exact ⟨hk', hp, fun j hj => by simpa using hn j (by omega) hj⟩
          rw [this]
          conv => whnf
          refine ⟨[], rfl, ?_⟩
          conv => whnf
          exact ⟨⟨⟩, rfl, trivial⟩
        | false =>
          conv => whnf
          refine ⟨l.length - (k + 1), by omega, k + 1, rfl, by omega, fun j hj hjk => ?_, ?_⟩
          · by_cases e : j = k
            · subst e; exact hp
            · exact hn j hj (by omega)
          · rw [wr (by omega) (by omega)]; rfl
      · have hgk := hg k hkL hk'
        rw [e] at hgk
        refine ⟨[.int .i64 l[k].k, .str l[k].n, .nil, .int .i64 l[k].w], ⟨by omega, by rw [Int.toNat_natCast, ← e]; exact List.getElem?_eq_getElem hkL⟩, ?_⟩
        conv => whnf
        refine callN [(0, 0)] (hgk) ?_ 
        conv => whnf
        refine ⟨⟨⟩, rfl, ?_⟩
        cases hp : p l[k] with
        | true =>
          have : l.findIdx? p = some k := by
            rw [List.findIdx?_eq_some_iff_getElem]
            exact ⟨hk', hp, fun j hj => by simpa using hn j (by omega) hj⟩
          rw [this]
          conv => whnf
          refine ⟨[], rfl, ?_⟩
          conv => whnf
          exact ⟨⟨⟩, rfl, trivial⟩
        | false =>
          conv => whnf
          refine ⟨l.length - (k + 1), by omega, k + 1, rfl, by omega, fun j hj hjk => ?_, ?_⟩
          · by_cases e : j = k
            · subst e; exact hp
            · exact hn j hj (by omega)
          · rw [wr (by omega) (by omega)]; rfl
    · have h := of_decide_eq_false h
      have : l.findIdx? p = none := by
        rw [List.findIdx?_eq_none_iff]
        intro x hx
        obtain ⟨j, hj, rfl⟩ := List.getElem_of_mem hx
        exact hn j hj (by omega)
      rw [this]
      conv => whnf
      refine ⟨[], rfl, ?_⟩
      conv => whnf
      exact ⟨⟨⟩, rfl, trivial⟩
theorem containsAct_raw (L : List (List V)) (l : List Act) (hL : L.length = l.length) (hrow : ∀ (j : Nat) (h1 : j < L.length) (h2 : j < l.length), L[j] = l[j].c ∨ (l[j].a = [] ∧ L[j] = [.int .i64 l[j].k, .str l[j].n, .nil, .int .i64 l[j].w])) (hl : l.length ≤ 1000000) (g : FuncId) (m : Int) (p : Act → Bool) (hg : ∀ (j : Nat) (h1 : j < L.length) (h2 : j < l.length), Good Tryz.prog g [.agg L[j], .ptr 0 0 0] [.box 0 [.int .i64 m]] [.bool (p l[j])] [.box 0 [.int .i64 m]]) : Good Tryz.prog 122 [.sl 4 L, .fn g [.ptr 0 0 0]] [.box 0 [.int .i64 m]] [.bool (l.any p)] [.box 0 [.int .i64 m]] := by
  refine good_of hP Tryz.func122 (by kernel_rfl) (lv := [0, 1, 4]) (js := []) ⟨rfl, rfl, rfl, rfl, rfl, rfl, _, rfl, ?_⟩
  conv => whnf
  refine callN [(0, 0)] (indexAct_raw L l hL hrow hl g m p hg) ?_ 
  conv => whnf
  refine ⟨⟨⟩, rfl, ?_⟩
  rw [← any_idx l p]
  conv => whnf
  refine ⟨[], rfl, ?_⟩
  conv => whnf
  exact ⟨⟨⟩, rfl, trivial⟩
theorem rcheck_raw (r : Rul) (hb : rulB r) (L : List (List V)) (hL : L.length = r.a.length) (hrow : ∀ (j : Nat) (h1 : j < L.length) (h2 : j < r.a.length), L[j] = r.a[j].c ∨ (r.a[j].a = [] ∧ L[j] = [.int .i64 r.a[j].k, .str r.a[j].n, .nil, .int .i64 r.a[j].w])) (hg : ∀ (m : Int) (j : Nat) (h1 : j < L.length) (h2 : j < r.a.length), Good Tryz.prog 123 [.agg L[j], .ptr 0 0 0] [.box 0 [.int .i64 m]] [.bool (!actOk m r.a[j])] [.box 0 [.int .i64 m]]) : Good Tryz.prog 59 [.agg [.str r.n, .int .i64 r.p, .sl 6 (cndV r.c), .sl 4 L]] [] [.int .i64 (if ruleOk r then 0 else 1)] [] := by
  obtain ⟨n, p, c, a⟩ := r
  obtain ⟨b1, b2, b3, b4, b5⟩ := hb
  dsimp only at b1 b2 b3 b4 b5 hL hrow hg
  refine good_of hP Tryz.func59 (by kernel_rfl) (lv := [0, 1, 2, 3, 5, 51, 53, 54, 55, 56, 61, 64, 71]) (js := []) ⟨rfl, rfl, rfl, rfl, rfl, rfl, _, rfl, ?_⟩
  unfold ruleOk
  dsimp only
  conv => whnf
  refine call0 (fname_good n b1) ?_
  cases nameS n with
  | false =>
    conv => whnf
    exact fin0 rfl trivial
  | true =>
  rw [Bool.true_and]
  conv => whnf
  refine branch_of (fun h1 => ?_) (fun h1 => ?_)
  · have h1 := of_decide_eq_true h1
    have e : decide (-1000 ≤ p ∧ p ≤ 1000) = false := decide_eq_false (by (try dsimp only at h1); omega)
    rw [e]
    conv => whnf
    exact fin0 rfl trivial
  have h1 := of_decide_eq_false h1
  conv => whnf
  refine branch_of (fun h2 => ?_) (fun h2 => ?_)
  · have h2 := of_decide_eq_true h2
    have e : decide (-1000 ≤ p ∧ p ≤ 1000) = false := decide_eq_false (by (try dsimp only at h2); omega)
    rw [e]
    conv => whnf
    exact fin0 rfl trivial
  have h2 := of_decide_eq_false h2
  have e : decide (-1000 ≤ p ∧ p ≤ 1000) = true := decide_eq_true (by (try dsimp only at h1 h2); omega)
  rw [e, Bool.true_and]
  conv => whnf
  refine branch_of (fun h3 => ?_) (fun h3 => ?_)
  · have h3 := of_decide_eq_true h3
    rw [List.length_map] at h3
    have e : decide (1 ≤ c.length ∧ c.length ≤ 6) = false := decide_eq_false (by (try dsimp only at h3); omega)
    rw [e]
    conv => whnf
    exact fin0 rfl trivial
  have h3 := of_decide_eq_false h3
  rw [List.length_map] at h3
  conv => whnf
  refine branch_of (fun h4 => ?_) (fun h4 => ?_)
  · have h4 := of_decide_eq_true h4
    rw [List.length_map] at h4
    have e : decide (1 ≤ c.length ∧ c.length ≤ 6) = false := decide_eq_false (by (try dsimp only at h4); omega)
    rw [e]
    conv => whnf
    exact fin0 rfl trivial
  have h4 := of_decide_eq_false h4
  rw [List.length_map] at h4
  (try dsimp only at h3 h4)
  have e : decide (1 ≤ c.length ∧ c.length ≤ 6) = true := decide_eq_true (by omega)
  rw [e, Bool.true_and]
  have h0 : 0 < c.length := by omega
  have e0 : headK c = c[0].k := by cases c with
    | nil => simp at h0
    | cons x r => rfl
  rw [e0]
  conv => whnf
  refine ⟨Cnd.c c[0], idxM h0 rfl, ?_⟩
  conv => whnf
  refine branch_of (fun h5 => ?_) (fun h5 => ?_)
  · rw [Bool.not_eq_true'] at h5
    have h5 : decide (c[0].k = 1) = false := h5
    rw [h5]
    conv => whnf
    exact fin0 rfl trivial
  rw [Bool.not_eq_false'] at h5
  have h5 : decide (c[0].k = 1) = true := h5
  rw [h5, Bool.true_and]
  conv => whnf
  refine branch_of (fun h6 => ?_) (fun h6 => ?_)
  · have h6 := of_decide_eq_true h6
    rw [hL] at h6
    have e : decide (1 ≤ a.length ∧ a.length ≤ 6) = false := decide_eq_false (by (try dsimp only at h6); omega)
    rw [e]
    conv => whnf
    exact fin0 rfl trivial
  have h6 := of_decide_eq_false h6
  rw [hL] at h6
  conv => whnf
  refine branch_of (fun h7 => ?_) (fun h7 => ?_)
  · have h7 := of_decide_eq_true h7
    rw [hL] at h7
    have e : decide (1 ≤ a.length ∧ a.length ≤ 6) = false := decide_eq_false (by (try dsimp only at h7); omega)
    rw [e]
    conv => whnf
    exact fin0 rfl trivial
  have h7 := of_decide_eq_false h7
  rw [hL] at h7
  (try dsimp only at h6 h7)
  have e : decide (1 ≤ a.length ∧ a.length ≤ 6) = true := decide_eq_true (by omega)
  rw [e, Bool.true_and]
  conv => whnf
  refine loop_of hP [0, 1, 2, 3, 5, 51, 53, 54, 55, 56, 61, 64, 71] [] [1, 2, 3, 53, 54, 55] [65, 67] [] (fun m st => ∃ k : Nat, m = c.length - k ∧ k ≤ c.length ∧ c.all condOk = (c.drop k).all condOk ∧ st = ⟨[(1, .ptr 65 0 0), (2, .int .i64 0), (3, .ptr 67 0 0), (53, .sl 6 (cndV c)), (54, .int .i64 c.length), (55, .int .i64 k)], [(65, .box 0 [.str n, .int .i64 p, .sl 6 (cndV c), .sl 4 L]), (67, .box 0 [.int .i64 (hasN (c.take k))])]⟩) c.length ?_ ?_
  · conv => whnf
    exact ⟨0, rfl, Nat.zero_le _, rfl, by rw [← List.length_map (f := Cnd.c)]; rfl⟩
  · rintro m st ⟨k, rfl, hk, he, rfl⟩
    conv => whnf
    refine branch_of (fun h => ?_) (fun h => ?_)
    · have h := of_decide_eq_true h
      have hk' : k < c.length := by omega
      rw [List.drop_eq_getElem_cons hk', List.all_cons] at he
      have hht := hasN_take c hk'
      have hhl := hasN_le (c.take k)
      rw [List.length_take] at hhl
      conv => whnf
      refine ⟨Cnd.c c[k], idxM hk' rfl, ?_⟩
      conv => whnf
      refine call0 (rcond_good c[k] (b3 _ (List.getElem_mem hk'))) ?_
      cases hc : condOk c[k] with
      | false =>
        rw [hc, Bool.false_and] at he
        rw [he]
        conv => whnf
        exact fin0 rfl trivial
      | true =>
        rw [hc, Bool.true_and] at he
        conv => whnf
        refine branch_of (fun g => ?_) (fun g => ?_)
        · have g : c[k].k = 1 := of_decide_eq_true g
          rw [if_pos g] at hht
          conv => whnf
          refine ⟨c.length - (k + 1), by omega, k + 1, rfl, by omega, he, ?_⟩
          rw [hht, wr (by omega) (by omega), wr (by omega) (by omega)]; rfl
        · have g : ¬ c[k].k = 1 := of_decide_eq_false g
          rw [if_neg g, Nat.add_zero] at hht
          conv => whnf
          refine ⟨c.length - (k + 1), by omega, k + 1, rfl, by omega, he, ?_⟩
          rw [hht, wr (by omega) (by omega)]; rfl
    · have h := of_decide_eq_false h
      have hd : c.drop k = [] := List.drop_eq_nil_iff.2 (by omega)
      rw [hd] at he
      rw [he, List.take_of_length_le (by omega), show (([] : List Cnd).all condOk) = true from rfl, Bool.true_and]
      conv => whnf
      refine callN [(67, 0)] (containsAct_raw L a hL hrow b4 123 (hasN c) (fun x => !actOk (hasN c) x) (fun j h1 h2 => hg (hasN c) j h1 h2)) ?_ 
      conv => whnf
      refine ⟨⟨⟩, rfl, ?_⟩
      have e9 : (a.any fun x => !actOk (hasN c) x) = !(a.all (actOk (hasN c))) := by rw [List.any_eq_not_all_not]; simp
      rw [e9]
      cases a.all (actOk (hasN c)) with
      | true =>
        conv => whnf
        exact fin0 rfl trivial
      | false =>
        conv => whnf
        exact fin0 rfl trivial
theorem rtext_raw (r : Rul) (hb : rulB r) (L : List (List V)) (hL : L.length = r.a.length) (hrow : ∀ (j : Nat) (h1 : j < L.length) (h2 : j < r.a.length), L[j] = r.a[j].c ∨ (r.a[j].a = [] ∧ L[j] = [.int .i64 r.a[j].k, .str r.a[j].n, .nil, .int .i64 r.a[j].w])) (hg : ∀ (m : Int) (j : Nat) (h1 : j < L.length) (h2 : j < r.a.length), Good Tryz.prog 123 [.agg L[j], .ptr 0 0 0] [.box 0 [.int .i64 m]] [.bool (!actOk m r.a[j])] [.box 0 [.int .i64 m]]) (hk : ruleOk r = false) : Good Tryz.prog 52 [.agg [.str r.n, .int .i64 r.p, .sl 6 (cndV r.c), .sl 4 L]] [] [.str [], .int .i64 1] [] := by
  have hc := rcheck_raw r hb L hL hrow hg
  rw [hk, if_neg (by simp)] at hc
  refine good_of hP Tryz.func52 (by kernel_rfl) (lv := [0, 1, 2, 3, 4, 5, 6, 8, 10, 11, 15, 18, 19, 20, 21, 31, 32, 33, 34, 62]) (js := []) ⟨rfl, rfl, rfl, rfl, rfl, rfl, _, rfl, ?_⟩
  conv => whnf
  refine call0 (hc) ?_
  conv => whnf
  exact fin0 rfl trivial
end Go.PV
namespace Go.PV
open Go Go.Proofs
set_option maxRecDepth 100000
theorem rows_ok (T : List Act) (x : Act) (hx : x.a = []) (hb : ∀ y ∈ T ++ [x], actB y) : (actV T ++ [[V.int .i64 x.k, .str x.n, .nil, .int .i64 x.w]]).length = (T ++ [x]).length ∧
    (∀ (j : Nat) (h1 : j < (actV T ++ [[V.int .i64 x.k, .str x.n, .nil, .int .i64 x.w]]).length) (h2 : j < (T ++ [x]).length), (actV T ++ [[V.int .i64 x.k, .str x.n, .nil, .int .i64 x.w]])[j] = (T ++ [x])[j].c ∨ ((T ++ [x])[j].a = [] ∧ (actV T ++ [[V.int .i64 x.k, .str x.n, .nil, .int .i64 x.w]])[j] = [.int .i64 (T ++ [x])[j].k, .str (T ++ [x])[j].n, .nil, .int .i64 (T ++ [x])[j].w])) ∧
    (∀ (m : Int) (j : Nat) (h1 : j < (actV T ++ [[V.int .i64 x.k, .str x.n, .nil, .int .i64 x.w]]).length) (h2 : j < (T ++ [x]).length), Good Tryz.prog 123 [.agg (actV T ++ [[V.int .i64 x.k, .str x.n, .nil, .int .i64 x.w]])[j], .ptr 0 0 0] [.box 0 [.int .i64 m]] [.bool (!actOk m (T ++ [x])[j])] [.box 0 [.int .i64 m]]) := by
  have hr : ∀ (j : Nat) (h1 : j < (actV T ++ [[V.int .i64 x.k, .str x.n, .nil, .int .i64 x.w]]).length) (h2 : j < (T ++ [x]).length), (actV T ++ [[V.int .i64 x.k, .str x.n, .nil, .int .i64 x.w]])[j] = (T ++ [x])[j].c ∨ ((T ++ [x])[j].a = [] ∧ (actV T ++ [[V.int .i64 x.k, .str x.n, .nil, .int .i64 x.w]])[j] = [.int .i64 (T ++ [x])[j].k, .str (T ++ [x])[j].n, .nil, .int .i64 (T ++ [x])[j].w]) := by
    intro j h1 h2
    by_cases hj : j < T.length
    · left
      rw [List.getElem_append_left (by rw [List.length_map]; exact hj), List.getElem_append_left hj, List.getElem_map]
    · right
      have e : j = T.length := by rw [List.length_append, List.length_cons, List.length_nil] at h2; omega
      subst e
      have e1 : (T ++ [x])[T.length] = x := by simp
      have e2 : (actV T ++ [[V.int .i64 x.k, .str x.n, .nil, .int .i64 x.w]])[T.length] = [V.int .i64 x.k, .str x.n, .nil, .int .i64 x.w] := by
        rw [List.getElem_append_right (by rw [List.length_map]; exact Nat.le_refl _)]; simp
      rw [e1, e2]; exact ⟨hx, rfl⟩
  refine ⟨by simp, hr, fun m j h1 h2 => ?_⟩
  have hm := hb _ (List.getElem_mem h2)
  rcases hr j h1 h2 with e | ⟨ez, e⟩
  · rw [e]; exact cclos_good _ m hm
  · rw [e]; exact cclos_nil _ m hm ez
theorem rulesBent_good (r : Rul) (how : Int) {p1 p2 : Prop} (_ : p1) (_ : p2) : Good Tryz.prog 14 [.agg r.v, .int .i64 how] [] [.bool true] [] := by
  refine good_of hP Tryz.func14 (by kernel_rfl) (lv := [0, 1, 2, 4, 5, 6, 7, 14, 19, 21, 24, 27, 33, 36, 49, 55]) (js := []) ⟨rfl, rfl, rfl, rfl, rfl, rfl, _, rfl, ?_⟩
  have e8 : ∃ j : Nat, j < 8 ∧ (IntKind.u64.wrap how).tmod 8 = (j : Int) := by
    have h2 : 0 ≤ IntKind.u64.wrap how := by rw [wru]; omega
    have h3 := Int.tmod_nonneg 8 h2
    have h4 := Int.tmod_lt_of_pos (IntKind.u64.wrap how) (show (0 : Int) < 8 by omega)
    exact ⟨((IntKind.u64.wrap how).tmod 8).toNat, by omega, by omega⟩
  obtain ⟨j, hj, hw⟩ := e8
  conv => whnf
  refine call0 (heavyR_good r) ?_
  cases ha : rulH r with
  | true =>
    conv => whnf
    exact fin0 rfl trivial
  | false =>
  have hb := rulH_B ha
  conv => whnf
  refine call0 (qrule_good r hb) ?_
  cases hk : ruleOk r with
  | false =>
    conv => whnf
    exact fin0 rfl trivial
  | true =>
  obtain ⟨h1, h2, h3, h4, h5, h6, h7, h8, h9, h10⟩ := ruleOk_all hk
  have hh := hasN_le r.c
  have hck := rcheck_good r hb
  rw [hk, if_pos rfl] at hck
  have htw := twinRule_own r hb
  obtain ⟨b1, b2, b3, b4, b5⟩ := hb
  obtain ⟨n, p, c, a⟩ := r
  dsimp only at b1 b2 b3 b4 b5 h1 h2 h3 h4 h5 h6 h7 h8 h9 h10 hh htw hck
  cases c with
  | nil => simp at h4
  | cons c0 cs =>
  cases a with
  | nil => simp at h7
  | cons a0 al =>
  conv => whnf
  refine call0 (htw) ?_
  conv => whnf
  refine ⟨⟨⟩, by decide, ?_⟩
  conv => whnf
  rw [hw]
  have h8c : j = 0 ∨ j = 1 ∨ j = 2 ∨ j = 3 ∨ j = 4 ∨ j = 5 ∨ j = 6 ∨ j = 7 := by omega
  rcases h8c with rfl | rfl | rfl | rfl | rfl | rfl | rfl | rfl
  · conv => whnf
    have hxk : ruleOk ⟨n, p, [], a0 :: al⟩ = false := by
      cases hq : ruleOk ⟨n, p, [], a0 :: al⟩ with
      | false => rfl
      | true =>
        obtain ⟨q1, q2, q3, q4, q5, q6, q7, q8, q9, q10⟩ := ruleOk_all hq
        exfalso
        simp at q4
    have hxB : rulB ⟨n, p, [], a0 :: al⟩ := ⟨b1, Nat.zero_le _, fun x hx => absurd hx List.not_mem_nil, b4, b5⟩
    have hE : ruleE ⟨n, p, [], a0 :: al⟩ = 1 ∧ ruleX ⟨n, p, [], a0 :: al⟩ = [] := by unfold ruleX ruleE; rw [hxk]; exact ⟨rfl, rfl⟩
    have hc2 := rcheck_good ⟨n, p, [], a0 :: al⟩ hxB
    rw [hxk, if_neg (by simp)] at hc2
    refine call0 (rtext_good ⟨n, p, [], a0 :: al⟩ hxB) ?_
    rw [hE.1, hE.2]
    conv => whnf
    refine call0 (hck) ?_
    conv => whnf
    refine call0 (hc2) ?_
    conv => whnf
    refine call0 (wakes11_good) ?_
    conv => whnf
    exact fin0 rfl trivial
  · conv => whnf
    have hxk : ruleOk ⟨n, p, c0 :: cs, []⟩ = false := by
      cases hq : ruleOk ⟨n, p, c0 :: cs, []⟩ with
      | false => rfl
      | true =>
        obtain ⟨q1, q2, q3, q4, q5, q6, q7, q8, q9, q10⟩ := ruleOk_all hq
        exfalso
        simp at q7
    have hxB : rulB ⟨n, p, c0 :: cs, []⟩ := ⟨b1, b2, b3, Nat.zero_le _, fun x hx => absurd hx List.not_mem_nil⟩
    have hE : ruleE ⟨n, p, c0 :: cs, []⟩ = 1 ∧ ruleX ⟨n, p, c0 :: cs, []⟩ = [] := by unfold ruleX ruleE; rw [hxk]; exact ⟨rfl, rfl⟩
    have hc2 := rcheck_good ⟨n, p, c0 :: cs, []⟩ hxB
    rw [hxk, if_neg (by simp)] at hc2
    refine call0 (rtext_good ⟨n, p, c0 :: cs, []⟩ hxB) ?_
    rw [hE.1, hE.2]
    conv => whnf
    refine call0 (hck) ?_
    conv => whnf
    refine call0 (hc2) ?_
    conv => whnf
    refine call0 (wakes11_good) ?_
    conv => whnf
    exact fin0 rfl trivial
  · conv => whnf
    refine ⟨⟨⟩, ⟨by omega, by rw [List.length_map, List.length_cons]; omega⟩, ?_⟩
    conv => whnf
    refine ⟨Cnd.c c0, rfl, ?_⟩
    conv => whnf
    have B0 : cndB ⟨2, c0.a, c0.h, c0.l, c0.r⟩ := b3 c0 (by simp)
    have hxk : ruleOk ⟨n, p, ⟨2, c0.a, c0.h, c0.l, c0.r⟩ :: cs, a0 :: al⟩ = false := by
      cases hq : ruleOk ⟨n, p, ⟨2, c0.a, c0.h, c0.l, c0.r⟩ :: cs, a0 :: al⟩ with
      | false => rfl
      | true =>
        obtain ⟨q1, q2, q3, q4, q5, q6, q7, q8, q9, q10⟩ := ruleOk_all hq
        exfalso
        simp [headK] at q6
    have hxB : rulB ⟨n, p, ⟨2, c0.a, c0.h, c0.l, c0.r⟩ :: cs, a0 :: al⟩ := ⟨b1, b2, fun x hx => by
        rcases List.mem_cons.1 hx with rfl | hx
        · exact B0
        · exact b3 x (by simp [hx]), b4, b5⟩
    have hE : ruleE ⟨n, p, ⟨2, c0.a, c0.h, c0.l, c0.r⟩ :: cs, a0 :: al⟩ = 1 ∧ ruleX ⟨n, p, ⟨2, c0.a, c0.h, c0.l, c0.r⟩ :: cs, a0 :: al⟩ = [] := by unfold ruleX ruleE; rw [hxk]; exact ⟨rfl, rfl⟩
    have hc2 := rcheck_good ⟨n, p, ⟨2, c0.a, c0.h, c0.l, c0.r⟩ :: cs, a0 :: al⟩ hxB
    rw [hxk, if_neg (by simp)] at hc2
    refine call0 (rtext_good ⟨n, p, ⟨2, c0.a, c0.h, c0.l, c0.r⟩ :: cs, a0 :: al⟩ hxB) ?_
    rw [hE.1, hE.2]
    conv => whnf
    refine call0 (hck) ?_
    conv => whnf
    refine call0 (hc2) ?_
    conv => whnf
    refine call0 (wakes11_good) ?_
    conv => whnf
    exact fin0 rfl trivial
  · conv => whnf
    have hxk : ruleOk ⟨n, 1001, c0 :: cs, a0 :: al⟩ = false := by
      cases hq : ruleOk ⟨n, 1001, c0 :: cs, a0 :: al⟩ with
      | false => rfl
      | true =>
        obtain ⟨q1, q2, q3, q4, q5, q6, q7, q8, q9, q10⟩ := ruleOk_all hq
        exfalso
        dsimp only at q3; omega
    have hxB : rulB ⟨n, 1001, c0 :: cs, a0 :: al⟩ := ⟨b1, b2, b3, b4, b5⟩
    have hE : ruleE ⟨n, 1001, c0 :: cs, a0 :: al⟩ = 1 ∧ ruleX ⟨n, 1001, c0 :: cs, a0 :: al⟩ = [] := by unfold ruleX ruleE; rw [hxk]; exact ⟨rfl, rfl⟩
    have hc2 := rcheck_good ⟨n, 1001, c0 :: cs, a0 :: al⟩ hxB
    rw [hxk, if_neg (by simp)] at hc2
    refine call0 (rtext_good ⟨n, 1001, c0 :: cs, a0 :: al⟩ hxB) ?_
    rw [hE.1, hE.2]
    conv => whnf
    refine call0 (hck) ?_
    conv => whnf
    refine call0 (hc2) ?_
    conv => whnf
    refine call0 (wakes11_good) ?_
    conv => whnf
    exact fin0 rfl trivial
  · conv => whnf
    have hw4 : IntKind.i64.wrap (((actV (a0 :: al)).length : Int) - 1) = ((al.length : Nat) : Int) := by
      rw [List.length_map, List.length_cons] at *
      rw [wr (by omega) (by omega)]; omega
    rw [hw4]
    refine ⟨⟨⟩, ⟨by omega, by rw [List.length_map, List.length_cons]; omega⟩, ?_⟩
    conv => whnf
    refine ⟨⟨⟩, by dsimp only; simp only [List.length_map, List.length_take, List.length_cons, List.length_nil]; simp only [List.length_cons] at b4; omega, ?_⟩
    conv => whnf
    rw [show (actV (a0 :: al)).take ((al.length : Nat) : Int).toNat = actV ((a0 :: al).take al.length) from by rw [Int.toNat_natCast, ← List.map_take]]
    have hxk : ruleOk ⟨n, p, c0 :: cs, (a0 :: al).take al.length ++ [⟨2, [], [], 6⟩]⟩ = false := by
      cases hq : ruleOk ⟨n, p, c0 :: cs, (a0 :: al).take al.length ++ [⟨2, [], [], 6⟩]⟩ with
      | false => rfl
      | true =>
        obtain ⟨q1, q2, q3, q4, q5, q6, q7, q8, q9, q10⟩ := ruleOk_all hq
        exfalso
        have q := q10 ⟨2, [], [], 6⟩ (by simp)
        have w := (actOk_2 q rfl).2.2.2
        have hn : hasN (c0 :: cs) ≤ (c0 :: cs).length := hasN_le _
        dsimp only at w; omega
    have hxB : rulB ⟨n, p, c0 :: cs, (a0 :: al).take al.length ++ [⟨2, [], [], 6⟩]⟩ := ⟨b1, b2, b3, by show ((a0 :: al).take al.length ++ [_]).length ≤ _; have b4' : al.length + 1 ≤ 1000000 := b4; simp only [List.length_append, List.length_take, List.length_cons, List.length_nil]; omega, fun x hx => by
        rcases List.mem_append.1 hx with hx | hx
        · exact b5 x (List.mem_of_mem_take hx)
        · rw [List.mem_singleton.1 hx]; exact ⟨Nat.zero_le _, Nat.zero_le _, fun l hl => absurd hl List.not_mem_nil⟩⟩
    have hE : ruleE ⟨n, p, c0 :: cs, (a0 :: al).take al.length ++ [⟨2, [], [], 6⟩]⟩ = 1 ∧ ruleX ⟨n, p, c0 :: cs, (a0 :: al).take al.length ++ [⟨2, [], [], 6⟩]⟩ = [] := by unfold ruleX ruleE; rw [hxk]; exact ⟨rfl, rfl⟩
    obtain ⟨r1, r2, r3⟩ := rows_ok ((a0 :: al).take al.length) ⟨2, [], [], 6⟩ rfl hxB.2.2.2.2
    have hc2 := rcheck_raw ⟨n, p, c0 :: cs, (a0 :: al).take al.length ++ [⟨2, [], [], 6⟩]⟩ hxB _ r1 r2 r3
    rw [hxk, if_neg (by simp)] at hc2
    refine call0 (rtext_raw ⟨n, p, c0 :: cs, (a0 :: al).take al.length ++ [⟨2, [], [], 6⟩]⟩ hxB _ r1 r2 r3 hxk) ?_
    conv => whnf
    refine call0 (hck) ?_
    conv => whnf
    refine call0 (hc2) ?_
    conv => whnf
    refine call0 (wakes11_good) ?_
    conv => whnf
    exact fin0 rfl trivial
  · conv => whnf
    refine ⟨⟨⟩, ⟨by omega, by rw [List.length_map, List.length_cons]; omega⟩, ?_⟩
    conv => whnf
    refine ⟨Act.c a0, rfl, ?_⟩
    conv => whnf
    have B0 : actB ⟨3, a0.n, a0.a, a0.w⟩ := b5 a0 (by simp)
    have hxk : ruleOk ⟨n, p, c0 :: cs, ⟨3, a0.n, a0.a, a0.w⟩ :: al⟩ = false := by
      cases hq : ruleOk ⟨n, p, c0 :: cs, ⟨3, a0.n, a0.a, a0.w⟩ :: al⟩ with
      | false => rfl
      | true =>
        obtain ⟨q1, q2, q3, q4, q5, q6, q7, q8, q9, q10⟩ := ruleOk_all hq
        exfalso
        have q := q10 ⟨3, a0.n, a0.a, a0.w⟩ (by simp)
        simp [actOk] at q
    have hxB : rulB ⟨n, p, c0 :: cs, ⟨3, a0.n, a0.a, a0.w⟩ :: al⟩ := ⟨b1, b2, b3, b4, fun x hx => by
        rcases List.mem_cons.1 hx with rfl | hx
        · exact B0
        · exact b5 x (by simp [hx])⟩
    have hE : ruleE ⟨n, p, c0 :: cs, ⟨3, a0.n, a0.a, a0.w⟩ :: al⟩ = 1 ∧ ruleX ⟨n, p, c0 :: cs, ⟨3, a0.n, a0.a, a0.w⟩ :: al⟩ = [] := by unfold ruleX ruleE; rw [hxk]; exact ⟨rfl, rfl⟩
    have hc2 := rcheck_good ⟨n, p, c0 :: cs, ⟨3, a0.n, a0.a, a0.w⟩ :: al⟩ hxB
    rw [hxk, if_neg (by simp)] at hc2
    refine call0 (rtext_good ⟨n, p, c0 :: cs, ⟨3, a0.n, a0.a, a0.w⟩ :: al⟩ hxB) ?_
    rw [hE.1, hE.2]
    conv => whnf
    refine call0 (hck) ?_
    conv => whnf
    refine call0 (hc2) ?_
    conv => whnf
    refine call0 (wakes11_good) ?_
    conv => whnf
    exact fin0 rfl trivial
  · conv => whnf
    refine ⟨⟨⟩, ⟨by omega, by rw [List.length_map, List.length_cons]; omega⟩, ?_⟩
    conv => whnf
    refine ⟨Cnd.c c0, rfl, ?_⟩
    conv => whnf
    have B0 : cndB ⟨c0.k, c0.a, 1, c0.l, c0.r⟩ := b3 c0 (by simp)
    have hxk : ruleOk ⟨n, p, ⟨c0.k, c0.a, 1, c0.l, c0.r⟩ :: cs, a0 :: al⟩ = false := by
      cases hq : ruleOk ⟨n, p, ⟨c0.k, c0.a, 1, c0.l, c0.r⟩ :: cs, a0 :: al⟩ with
      | false => rfl
      | true =>
        obtain ⟨q1, q2, q3, q4, q5, q6, q7, q8, q9, q10⟩ := ruleOk_all hq
        exfalso
        have q := q9 ⟨c0.k, c0.a, 1, c0.l, c0.r⟩ (by simp)
        have hk0 : c0.k = 1 := h6
        have w := (condOk_n q (by dsimp only; omega)).2.1
        simp at w
    have hxB : rulB ⟨n, p, ⟨c0.k, c0.a, 1, c0.l, c0.r⟩ :: cs, a0 :: al⟩ := ⟨b1, b2, fun x hx => by
        rcases List.mem_cons.1 hx with rfl | hx
        · exact B0
        · exact b3 x (by simp [hx]), b4, b5⟩
    have hE : ruleE ⟨n, p, ⟨c0.k, c0.a, 1, c0.l, c0.r⟩ :: cs, a0 :: al⟩ = 1 ∧ ruleX ⟨n, p, ⟨c0.k, c0.a, 1, c0.l, c0.r⟩ :: cs, a0 :: al⟩ = [] := by unfold ruleX ruleE; rw [hxk]; exact ⟨rfl, rfl⟩
    have hc2 := rcheck_good ⟨n, p, ⟨c0.k, c0.a, 1, c0.l, c0.r⟩ :: cs, a0 :: al⟩ hxB
    rw [hxk, if_neg (by simp)] at hc2
    refine call0 (rtext_good ⟨n, p, ⟨c0.k, c0.a, 1, c0.l, c0.r⟩ :: cs, a0 :: al⟩ hxB) ?_
    rw [hE.1, hE.2]
    conv => whnf
    refine call0 (hck) ?_
    conv => whnf
    refine call0 (hc2) ?_
    conv => whnf
    refine call0 (wakes11_good) ?_
    conv => whnf
    exact fin0 rfl trivial
  · conv => whnf
    have hxk : ruleOk ⟨[114, 117, 108, 101], p, c0 :: cs, a0 :: al⟩ = false := by
      cases hq : ruleOk ⟨[114, 117, 108, 101], p, c0 :: cs, a0 :: al⟩ with
      | false => rfl
      | true =>
        obtain ⟨q1, q2, q3, q4, q5, q6, q7, q8, q9, q10⟩ := ruleOk_all hq
        exfalso
        exact absurd (show nameS [114, 117, 108, 101] = true from q1) (by decide +kernel)
    have hxB : rulB ⟨[114, 117, 108, 101], p, c0 :: cs, a0 :: al⟩ := ⟨by show (4 : Nat) ≤ 1000000; omega, b2, b3, b4, b5⟩
    have hE : ruleE ⟨[114, 117, 108, 101], p, c0 :: cs, a0 :: al⟩ = 1 ∧ ruleX ⟨[114, 117, 108, 101], p, c0 :: cs, a0 :: al⟩ = [] := by unfold ruleX ruleE; rw [hxk]; exact ⟨rfl, rfl⟩
    have hc2 := rcheck_good ⟨[114, 117, 108, 101], p, c0 :: cs, a0 :: al⟩ hxB
    rw [hxk, if_neg (by simp)] at hc2
    refine call0 (rtext_good ⟨[114, 117, 108, 101], p, c0 :: cs, a0 :: al⟩ hxB) ?_
    rw [hE.1, hE.2]
    conv => whnf
    refine call0 (hck) ?_
    conv => whnf
    refine call0 (hc2) ?_
    conv => whnf
    refine call0 (wakes11_good) ?_
    conv => whnf
    exact fin0 rfl trivial
end Go.PV
