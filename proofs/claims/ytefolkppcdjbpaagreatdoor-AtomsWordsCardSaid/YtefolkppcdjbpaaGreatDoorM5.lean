/- Part of the proof of AtomsWords. -/
import Derived.Test.YtefolkppcdjbpaaGreatDoorM4
import Derived.ChangeArms
import Derived.DataElems
import Derived.DataReads
import Derived.SizedLaws
import Derived.ChangeSlices
import Derived.WideShapes
import Derived.ChangeShapes
import Derived.JoinedOf
import Derived.SevenTiedAt
import Derived.Test.YtefolkppcdjbpaaGreatDoorRows
import Derived.LaidMore
import Derived.Stop.LaidErr
import Derived.Lib.LaidTab
import Derived.MakeChecks
import Derived.LaidLaws
namespace Go.PV
open Go Go.Proofs
set_option maxRecDepth 100000
theorem atmH_B {a : Atm} (h : atmH a = false) : atmB a := by
  unfold atmH trmH at h
  simp at h
  obtain ⟨⟨h1, h2⟩, h3⟩ := h
  exact ⟨by omega, by omega, fun t ht => by have := h3 t ht; exact ⟨by omega, by omega⟩⟩
theorem opsH_B {l : List Stp} (h : opsH l = false) : opsB l := by
  unfold opsH stpH at h
  simp at h
  obtain ⟨h1, h3⟩ := h
  exact ⟨by omega, fun t ht => by have := h3 t ht; exact ⟨by omega, by omega⟩⟩
theorem toksH_B {l : List Tok} (h : toksH l = false) : tokB l := by
  unfold toksH tokH at h
  simp at h
  obtain ⟨h1, h3⟩ := h
  exact ⟨by omega, fun t ht => by have := h3 t ht; omega⟩
theorem tokB_len {l : List Tok} (h : tokB l) : l.length ≤ 1000000 := h.1
theorem atomsBack_good (a b : Atm) (x y : List Stp) (more : Int) {p1 p2 : Prop} (_ : p1) (_ : p2) (_ : x.length ≤ maxLen) {p3 : Stp → Prop} (_ : ∀ v ∈ x, p3 v) (_ : y.length ≤ maxLen) {p4 : Stp → Prop} (_ : ∀ v ∈ y, p4 v) (_ : (Lit.int .i64 more).wf = true) :
    Good Tryz.prog 4 [.agg a.c, .agg b.c, .sl 5 (stpV x), .sl 5 (stpV y), .int .i64 more] [] [.bool true] [] := by
  refine good_of hP Tryz.func4 (by kernel_rfl) (lv := [0, 1, 2, 3, 4, 5, 6, 10, 11, 12, 13, 14, 15, 16, 17, 18, 20, 21, 23, 24, 25, 26, 27, 28, 29, 31, 32, 34, 48, 67, 137, 149]) (js := [67]) ⟨rfl, rfl, rfl, rfl, rfl, rfl, _, rfl, ?_⟩
  obtain ⟨k, hk, hw⟩ := modk (m := 6) (by omega) (by omega) more
  have h6 : k < 6 := by omega
  obtain ⟨q, _, hT, hq, hs, hh⟩ := bK_facts k h6
  have hTl : k < bT.length := h6
  have hTe : bT[k] = weaveK q := by rw [List.getElem?_eq_getElem hTl] at hT; exact Option.some.inj hT
  have hbl : (weaveK q).length ≤ 5 := by
    rw [← hTe]
    have : ∀ k (h : k < bT.length), bT[k].length ≤ 5 := by decide
    exact this k hTl
  generalize hbe : weaveK q = beh at *
  conv => whnf
  refine call0 (heavyA_good a) ?_
  cases ha : atmH a with
  | true =>
    conv => whnf
    exact fin0 rfl trivial
  | false =>
  have ha := atmH_B ha
  conv => whnf
  refine call0 (heavyA_good b) ?_
  cases hb : atmH b with
  | true =>
    conv => whnf
    exact fin0 rfl trivial
  | false =>
  have hb := atmH_B hb
  conv => whnf
  refine call0 (heavyX_good x) ?_
  cases hx : opsH x with
  | true =>
    conv => whnf
    exact fin0 rfl trivial
  | false =>
  have hx := opsH_B hx
  conv => whnf
  refine call0 (heavyX_good y) ?_
  cases hy : opsH y with
  | true =>
    conv => whnf
    exact fin0 rfl trivial
  | false =>
  have hy := opsH_B hy
  conv => whnf
  refine ⟨⟨⟩, by decide, ?_⟩
  conv => whnf
  rw [hw]
  refine ⟨⟨⟩, idxB (f := fun t => [V.str t]) hTl rfl, ?_⟩
  conv => whnf
  refine ⟨[.str beh], by rw [← hTe]; exact (idxM (f := fun t => [V.str t]) hTl rfl).2, ?_⟩
  conv => whnf
  refine call0 (atomText_good a ha) ?_
  conv => whnf
  refine call0 (atomText_good b hb) ?_
  conv => whnf
  refine seq_of hP [0, 1, 2, 3, 4, 5, 6, 10, 11, 12, 13, 14, 15, 16, 17, 18, 20, 21, 23, 24, 25, 26, 27, 28, 29, 31, 32, 34, 48, 67, 137, 149] [67] [2, 3, 11] [] [] (fun st => st = ⟨[(2, .sl 5 (stpV x)), (3, .sl 5 (stpV y)), (11, .str beh)], []⟩) ?_ ?_
  · cases hka : atomOk a with
    | false =>
      conv => whnf
    | true =>
      rw [if_pos rfl, if_pos rfl]
      have hal := atomT_len hka
      obtain ⟨e1, e2, e3⟩ := parse_atom hka
      obtain ⟨e4, _⟩ := lex_atom hka hq (by rw [hbe]; exact hs)
      have e5 := read_atom hka hq (by rw [hbe]; exact hs) hh
      rw [hbe] at e4 e5
      have hb1 := tokB_R (atomT a ++ beh) (by rw [List.length_append]; omega)
      conv => whnf
      refine call0 (parseA_good (atomT a) (by omega)) ?_
      rw [e1]
      conv => whnf
      refine ⟨⟨⟩, by dsimp only; omega, ?_⟩
      conv => whnf
      refine call0 (tokens_good (atomT a ++ beh) (by rw [List.length_append]; omega)) ?_
      rw [e4]
      generalize toksR (atomT a ++ beh) = l1 at *
      conv => whnf
      refine call0 (tokens_good (atomT a) (by omega)) ?_
      rw [e2]
      generalize toksR (atomT a) = l2 at *
      conv => whnf
      refine call0 (readA_good l1 0 hb1 (Nat.zero_le _)) ?_
      rw [e5]
      conv => whnf
      refine branch_of (fun h => ?_) (fun h => ?_)
      · rw [Bool.not_eq_true'] at h
        have h := of_decide_eq_false h
        rw [List.length_map] at h
        dsimp only at h
        omega
      conv => whnf
      refine call0 (keepAtom_good a a ha.2.1) ?_
      rw [decide_eq_true rfl]
      conv => whnf
      refine call0 (keepAtom_good a a ha.2.1) ?_
      rw [decide_eq_true rfl]
      cases hkb : atomOk b with
      | false =>
        conv => whnf
      | true =>
        conv => whnf
        refine call0 (keepAtom_good a b ha.2.1) ?_
        have e6 : (!(decide (atomT a = atomT b) == decide (a = b))) = false := by rw [atomT_inj hka hkb]; simp
        conv => whnf
        rw [if_pos rfl]
        rw [e6]
        conv => whnf
  rintro st rfl
  conv => whnf
  refine call0 (exprText_good x hx) ?_
  cases hkx : exprOk x with
  | false =>
    conv => whnf
    refine call0 (exprText_good y hy) ?_
    conv => whnf
    refine call0 (wakes10_good) ?_
    conv => whnf
    exact fin0 rfl trivial
  | true =>
    rw [if_pos rfl, if_pos rfl]
    have hxl := exprT_len hkx
    obtain ⟨e1, e2, e3⟩ := read_expr hkx hq (by rw [hbe]; exact hs)
    rw [hbe] at e1 e2 e3
    have hb1 := tokB_R (exprT x ++ beh) (by rw [List.length_append]; omega)
    conv => whnf
    refine call0 (exprText_good y hy) ?_
    conv => whnf
    refine ⟨⟨⟩, by dsimp only; omega, ?_⟩
    conv => whnf
    refine call0 (tokens_good (exprT x ++ beh) (by rw [List.length_append]; omega)) ?_
    rw [e1]
    generalize toksR (exprT x ++ beh) = l1 at *
    conv => whnf
    refine call0 (readX_good l1 0 hb1 (Nat.zero_le _)) ?_
    rw [e2, e3]
    conv => whnf
    refine call0 (keepOps_good x x hx.1) ?_
    rw [decide_eq_true rfl]
    cases hky : exprOk y with
    | false =>
      conv => whnf
      refine call0 (wakes10_good) ?_
      conv => whnf
      exact fin0 rfl trivial
    | true =>
      conv => whnf
      refine call0 (keepOps_good x y hx.1) ?_
      have e6 : (decide (exprT x = exprT y) == decide (x = y)) = true := by rw [exprT_inj hkx hky]; simp
      conv => whnf
      rw [if_pos rfl]
      rw [e6]
      conv => whnf
      refine call0 (wakes10_good) ?_
      conv => whnf
      exact fin0 rfl trivial
theorem atomsReads_good (l : List Tok) (i : Int) (_ : l.length ≤ maxLen) {p : Tok → Prop} (_ : ∀ v ∈ l, p v) (_ : (Lit.int .i64 i).wf = true) :
    Good Tryz.prog 5 [.sl 4 (toksV l), .int .i64 i] [] [.bool true] [] := by
  refine good_of hP Tryz.func5 (by kernel_rfl) (lv := [0, 1, 4, 5, 6, 7, 8, 9, 10, 11, 12, 13, 14, 15, 16, 17, 19, 20, 22, 24, 33, 66, 75, 92]) (js := [33]) ⟨rfl, rfl, rfl, rfl, rfl, rfl, _, rfl, ?_⟩
  conv => whnf
  refine call0 (heavyT_good l) ?_
  cases hb : toksH l with
  | true =>
    conv => whnf
    exact fin0 rfl trivial
  | false =>
  have hb := toksH_B hb
  by_cases hi : 0 ≤ i ∧ i ≤ l.length
  · obtain ⟨n, rfl⟩ : ∃ n : Nat, i = n := ⟨i.toNat, by omega⟩
    have hn : n ≤ l.length := by omega
    conv => whnf
    refine seq_of hP [0, 1, 4, 5, 6, 7, 8, 9, 10, 11, 12, 13, 14, 15, 16, 17, 19, 20, 22, 24, 33, 66, 75, 92] [33] [0, 1] [] [] (fun st => st = ⟨[(0, .sl 4 (toksV l)), (1, .int .i64 n)], []⟩) ?_ ?_
    · conv => whnf
      refine call0 (readA_good l n hb hn) ?_
      obtain ⟨_, _, h0⟩ := readA_place hn
      rcases h0 with h0 | h0
      · obtain ⟨a1, a2, a3⟩ := readA_ok h0
        rw [h0]
        generalize readA l n = z at *
        have hal := atomT_len a1
        obtain ⟨e1, e2, e3⟩ := parse_atom a1
        have hab : atmB z.1 := by
          obtain ⟨q1, q2, q3⟩ := atomOk_len a1
          exact ⟨by omega, by omega, fun t ht => by have := q3 t ht; exact ⟨by omega, by omega⟩⟩
        conv => whnf
        refine call0 (atomText_good z.1 hab) ?_
        rw [a1, if_pos rfl]
        conv => whnf
        refine call0 (parseA_good (atomT z.1) (by omega)) ?_
        rw [e1]
        conv => whnf
        refine call0 (keepAtom_good z.1 z.1 hab.2.1) ?_
        rw [decide_eq_true rfl]
        conv => whnf
        refine branch_of (fun h => ?_) (fun h => ?_)
        · have h := of_decide_eq_true h; omega
        conv => whnf
        refine branch_of (fun h => ?_) (fun h => ?_)
        · have h := of_decide_eq_true h
          rw [List.length_map] at h; omega
        conv => whnf
      · rw [h0]
        conv => whnf
    rintro st rfl
    conv => whnf
    refine call0 (readX_good l n hb hn) ?_
    obtain ⟨p1, p2, h0⟩ := readX_place hn
    rcases h0 with h0 | h0
    · obtain ⟨a1, a2, a3⟩ := readX_ok h0
      rw [h0]
      generalize readX l n = z at *
      have hxl := exprT_len a1
      have hr := read_expr a1 (q := []) trivial rfl
      have e : exprT z.1 ++ weaveK [] = exprT z.1 := List.append_nil _
      rw [e] at hr
      obtain ⟨e1, e2, e3⟩ := hr
      have hb1 := tokB_R (exprT z.1) (by omega)
      have hxb : opsB z.1 := by
        obtain ⟨q1, q2⟩ := exprOk_len a1
        exact ⟨by omega, fun o ho => by have := q2 o ho; exact ⟨by omega, by omega⟩⟩
      conv => whnf
      refine call0 (exprText_good z.1 hxb) ?_
      rw [a1, if_pos rfl]
      conv => whnf
      refine call0 (tokens_good (exprT z.1) (by omega)) ?_
      rw [e1]
      generalize toksR (exprT z.1) = l1 at *
      conv => whnf
      refine call0 (readX_good l1 0 hb1 (Nat.zero_le _)) ?_
      rw [e2, e3]
      conv => whnf
      refine call0 (keepOps_good z.1 z.1 hxb.1) ?_
      rw [decide_eq_true rfl]
      conv => whnf
      refine branch_of (fun h => ?_) (fun h => ?_)
      · conv => whnf
        refine branch_of (fun h2 => ?_) (fun h2 => ?_)
        · conv => whnf
          refine call0 (wakes10_good) ?_
          conv => whnf
          exact fin0 rfl trivial
        · have h2 := of_decide_eq_false h2
          rw [List.length_map] at h2; omega
      · have h := of_decide_eq_false h; omega
    · have hz : (readX l n).1 = [] := by
        unfold readX at h0 ⊢
        dsimp only at h0 ⊢
        rw [if_neg (by omega)]
      rw [h0, hz]
      generalize readX l n = z at *
      conv => whnf
      refine branch_of (fun h => ?_) (fun h => ?_)
      · conv => whnf
        refine branch_of (fun h2 => ?_) (fun h2 => ?_)
        · conv => whnf
          refine call0 (wakes10_good) ?_
          conv => whnf
          exact fin0 rfl trivial
        · have h2 := of_decide_eq_false h2
          rw [List.length_map] at h2; omega
      · have h := of_decide_eq_false h; omega
  · conv => whnf
    refine seq_of hP [0, 1, 4, 5, 6, 7, 8, 9, 10, 11, 12, 13, 14, 15, 16, 17, 19, 20, 22, 24, 33, 66, 75, 92] [33] [0, 1] [] [] (fun st => st = ⟨[(0, .sl 4 (toksV l)), (1, .int .i64 i)], []⟩) ?_ ?_
    · conv => whnf
      refine call0 (readA_bad l i hb.1 hi) ?_
      conv => whnf
    rintro st rfl
    conv => whnf
    refine call0 (readX_bad l i hb.1 hi) ?_
    conv => whnf
    refine branch_of (fun h => ?_) (fun h => ?_)
    · conv => whnf
      refine call0 (wakes10_good) ?_
      conv => whnf
      exact fin0 rfl trivial
    · have h := of_decide_eq_false h
      conv => whnf
      refine branch_of (fun h2 => ?_) (fun h2 => ?_)
      · conv => whnf
        refine call0 (wakes10_good) ?_
        conv => whnf
        exact fin0 rfl trivial
      · have h2 := of_decide_eq_false h2
        rw [List.length_map] at h2; omega
end Go.PV
namespace Go.PV
open Go
/-! law 10: words, numbers with noughts ahead; parts of an expression -/
namespace Rd
theorem term_any {r : Rd} {x : KT} {t : Trm} {m : List KT} (ho : r.isOpen = true) (h : r.rest = x :: m) (hx : valueS x = some t) : r.term = (t, r.step) := by
  unfold term; rw [if_pos ho, (rest_cons h).1, Option.bind_some, hx]
theorem args_any : ∀ (l : List (KT × Trm)) (f : Nat) (r : Rd) (m : List KT), r.isOpen = true → (∀ p ∈ l, valueS p.1 = some p.2) → r.rest = l.flatMap (fun p => [(5, [44]), p.1]) ++ (5, [41]) :: m → l.length ≤ f →
    (args f r).1 = l.map (·.2) ∧ (args f r).2.want 5 [41] = r.adv (2 * l.length + 1)
  | [], f, r, m, ho, _, hr, _ => by
    have hs : r.see 5 [44] = false := see_no (x := (5, [44])) (by rw [hr]; simp)
    have e : args f r = ([], r) := by cases f <;> simp [args, hs]
    rw [e]
    exact ⟨rfl, want_rest ho (x := (5, [41])) (m := m) (by rw [hr]; rfl)⟩
  | (x, t) :: l, f, r, m, ho, hk, hr, hf => by
    obtain ⟨f, rfl⟩ : ∃ f', f = f' + 1 := ⟨f - 1, by simp at hf; omega⟩
    have hr : r.rest = (5, [44]) :: x :: (l.flatMap (fun p => [(5, [44]), p.1]) ++ (5, [41]) :: m) := hr
    have h1 := rest_cons hr
    have h2 := rest_cons h1.2
    have ht := term_any (r := r.step) ho h1.2 (hk (x, t) (by simp))
    obtain ⟨i1, i2⟩ := args_any l f r.step.step m ho (fun p hp => hk p (by simp [hp])) h2.2 (by simp at hf; omega)
    rw [args, if_pos (see_rest ho hr), ht]
    dsimp only
    rw [i1, i2]
    refine ⟨rfl, ?_⟩
    simp only [adv, step, List.length_cons]
    congr 1; omega
/-- an atom of any terms' signs -/
theorem atom_any {r : Rd} {n : Bs} {x : KT} {t : Trm} {l : List (KT × Trm)} {m : List KT} (ho : r.isOpen = true) (hn : nameS n = true) (hx : valueS x = some t) (hk : ∀ p ∈ l, valueS p.1 = some p.2)
    (hr : r.rest = (1, n) :: (5, [40]) :: x :: (l.flatMap (fun p => [(5, [44]), p.1]) ++ (5, [41]) :: m)) (h5 : l.length + 1 ≤ 5) : r.atom = (⟨n, t :: l.map (·.2)⟩, r.adv (2 * l.length + 4)) := by
  have hc := rest_cons hr
  have hc2 := rest_cons hc.2
  have hc3 := rest_cons hc2.2
  have hnm := name_rest ho hr hn
  have hs : r.step.see 5 [40] = true := see_rest (r := r.step) (x := (5, [40])) ho hc.2
  have ht := term_any (r := r.step.step) ho hc2.2 hx
  have hll : l.length ≤ r.l.length := by
    have e := congrArg List.length hr
    have : ∀ l : List (KT × Trm), l.length ≤ (l.flatMap (fun p => [((5 : Int), ([44] : Bs)), p.1])).length := fun l => by
      induction l with
      | nil => simp
      | cons u l ih => rw [List.flatMap_cons, List.length_append]; simp only [List.length_cons, List.length_nil]; omega
    have := this l
    simp only [rest, List.length_map, List.length_drop, List.length_cons, List.length_append] at e
    omega
  obtain ⟨i1, i2⟩ := args_any l r.l.length r.step.step.step m ho hk hc3.2 hll
  have hy := atom_yes (r := r) (by rw [hnm]; exact hs)
  rw [hnm] at hy
  dsimp only at hy
  rw [ht] at hy
  dsimp only at hy
  have hl : r.step.l = r.l := rfl
  rw [hl, i1, i2, List.length_map, if_neg (by omega), List.take_of_length_le (by simp; omega)] at hy
  rw [hy]
  simp only [adv, step]
  congr 2; omega
end Rd
def dig3 (n : Nat) : Bs := [UInt8.ofNat (48 + n / 100), UInt8.ofNat (48 + n / 10 % 10), UInt8.ofNat (48 + n % 10)]
theorem dig_val {n : Nat} (h : n < 1000) : digN (dig3 n) = n ∧ (dig3 n).all digitB = true := by
  have h1 := dig_nat (d := n / 100) (by omega)
  have h2 := dig_nat (d := n / 10 % 10) (by omega)
  have h3 := dig_nat (d := n % 10) (by omega)
  constructor
  · simp only [digN, dig3, List.foldl_cons, List.foldl_nil, h1, h2, h3]; omega
  · simp only [dig3, List.all_cons, List.all_nil, digitB, inB, h1, h2, h3]
    simp; omega
theorem num_dig {n : Nat} (h : n < 1000) : refNumS (dig3 n) = some (n : Int) ∧ refNumS (48 :: dig3 n) = some (n : Int) ∧ refNumS (45 :: dig3 n) = some (-(n : Int)) := by
  obtain ⟨h1, h2⟩ := dig_val h
  have hd : dig3 n ≠ [] := by simp [dig3]
  have hs : signed (dig3 n) = false := by
    have h1 := dig_nat (d := n / 100) (by omega)
    simp only [signed, dig3, headB, h1]; simp; omega
  refine ⟨?_, ?_, ?_⟩
  · have hu : unS (dig3 n) = dig3 n := by unfold unS; rw [hs]; rfl
    unfold refNumS
    rw [hu, h1, if_neg (by simp [hd, h2]; omega), hs, if_neg (by simp)]
  · have hu : unS (48 :: dig3 n) = 48 :: dig3 n := rfl
    unfold refNumS
    rw [hu, digN_zero, h1, if_neg, if_neg (show ¬ signed (48 :: dig3 n) = true from by simp [signed, headB])]
    rintro (h | h | h)
    · cases h
    · apply h; rw [List.all_cons, h2]; rfl
    · omega
  · have hu : unS (45 :: dig3 n) = dig3 n := rfl
    unfold refNumS
    rw [hu, h1, if_neg (by simp [hd, h2]; omega), if_pos (by rfl)]
theorem val_dig {n : Nat} (h : n < 1000) : valueS (3, dig3 n) = some ⟨[], ⟨1, n, []⟩⟩ ∧ valueS (3, 48 :: dig3 n) = some ⟨[], ⟨1, n, []⟩⟩ ∧ valueS (3, 45 :: dig3 n) = some ⟨[], ⟨1, -n, []⟩⟩ := by
  obtain ⟨h1, h2, h3⟩ := num_dig h
  have e : ∀ s, valueS (3, s) = (numberS s).map fun v => ⟨[], v⟩ := fun s => rfl
  rw [e, e, e, number_ref, number_ref, number_ref, h1, h2, h3]
  exact ⟨rfl, rfl, rfl⟩
def wordK (w s : Bs) : List (Bs × KT) := [([], (1, [112])), ([], (5, [40])), ([], (1, w)), ([], (5, [44])), ([32], (3, 48 :: s)), ([], (5, [44])), ([32], (3, 45 :: s)), ([], (5, [41]))]
theorem sym_words : ∀ w ∈ wordsL, refWordS false w = true ∧ w.length ≤ 10 := by decide +kernel
theorem parse_words {w : Bs} (hw : w ∈ wordsL) {n : Nat} (h : n < 1000) : parseA ([112, 40] ++ w ++ [44, 32, 48] ++ dig3 n ++ [44, 32, 45] ++ dig3 n ++ [41]) = (⟨[112], [⟨[], ⟨2, 0, w⟩⟩, ⟨[], ⟨1, n, []⟩⟩, ⟨[], ⟨1, -n, []⟩⟩]⟩, 0) := by
  obtain ⟨d1, d2, d3⟩ := num_dig h
  obtain ⟨v1, v2, v3⟩ := val_dig h
  have hsw := (sym_words w hw).1
  have tw : Tk (1, w) := tk_word (large := false) hsw
  have vw : valueS (1, w) = some ⟨[], ⟨2, 0, w⟩⟩ := by
    rw [← symbol_word] at hsw
    unfold valueS; rw [if_neg (by dsimp only; omega), if_neg (by dsimp only; omega), parse_sym hsw]; simp
  have hwv : WovK [] (wordK w (dig3 n)) := by
    refine ⟨rfl, by unfold Tk; decide +kernel, okEnd_stop rfl, rfl, rfl, ?_, rfl, tw, okEnd_stop rfl, rfl, rfl, rfl, rfl, tk_num (by rw [d2]; rfl), okEnd_stop rfl, rfl, rfl, rfl, rfl, tk_num (by rw [d3]; rfl), okEnd_stop rfl, rfl, rfl, rfl, trivial⟩
    obtain ⟨c, u, e, hc⟩ := tk_head tw (show (1 : Int) ≠ 5 by decide)
    have e : w = c :: u := e
    rw [e]
    exact okEnd_sign (by decide) hc
  have e : weaveK (wordK w (dig3 n)) ++ [] = [112, 40] ++ w ++ [44, 32, 48] ++ dig3 n ++ [44, 32, 45] ++ dig3 n ++ [41] := by simp [wordK, weaveK]
  obtain ⟨r1, r2, _⟩ := wovK_R hwv rfl
  rw [e] at r1 r2
  generalize [112, 40] ++ w ++ [44, 32, 48] ++ dig3 n ++ [44, 32, 45] ++ dig3 n ++ [41] = T at *
  have hkt : (toksR T).map kt = (wordK w (dig3 n)).map (·.2) := by rw [r1, posL_kt]
  have hlen : (toksR T).length = 8 := by have := congrArg List.length hkt; simpa [wordK] using this
  have ha := Rd.atom_any (r := rd0 (toksR T) 0) (n := [112]) (x := (1, w)) (l := [((3, 48 :: dig3 n), ⟨[], ⟨1, n, []⟩⟩), ((3, 45 :: dig3 n), ⟨[], ⟨1, -n, []⟩⟩)]) (m := []) rfl (by decide +kernel) vw (fun p hp => by
    simp only [List.mem_cons, List.mem_nil_iff, or_false] at hp
    rcases hp with rfl | rfl
    · exact v2
    · exact v3) (by unfold Rd.rest; dsimp only; rw [List.drop_zero, hkt]; rfl) (by simp)
  unfold parseA
  rw [if_pos r2]
  unfold readA
  rw [ha]
  dsimp only
  rw [if_pos]
  · rfl
  · exact ⟨rfl, by rw [hlen]; rfl⟩
theorem word_bad : wordsL.all (fun w => decide ((parseA (w ++ [40, 49, 41])).2 = 7)) = true := by decide +kernel
def oneK (_ s : Bs) : List (Bs × KT) := [([], (5, [40])), ([], (3, [49])), ([32], (3, 45 :: s)), ([], (5, [41]))]
theorem read_minus {n : Nat} (h : n < 1000) : errR ([40, 49, 32, 45] ++ dig3 n ++ [41]) = 0 ∧ (readX (toksR ([40, 49, 32, 45] ++ dig3 n ++ [41])) 0).2 = (2, 7) := by
  obtain ⟨d1, d2, d3⟩ := num_dig h
  have hwv : WovK [] (oneK [] (dig3 n)) := ⟨rfl, rfl, rfl, rfl, by unfold Tk; decide +kernel, okEnd_stop rfl, rfl, tk_num (by rw [d3]; rfl), okEnd_stop rfl, rfl, rfl, rfl, trivial⟩
  have e : weaveK (oneK [] (dig3 n)) ++ [] = [40, 49, 32, 45] ++ dig3 n ++ [41] := by simp [oneK, weaveK]
  obtain ⟨r1, r2, _⟩ := wovK_R hwv rfl
  rw [e] at r1 r2
  generalize [40, 49, 32, 45] ++ dig3 n ++ [41] = T at *
  have hkt : (toksR T).map kt = (oneK [] (dig3 n)).map (·.2) := by rw [r1, posL_kt]
  have hlen : (toksR T).length = 4 := by have := congrArg List.length hkt; simpa [oneK] using this
  refine ⟨r2, ?_⟩
  have hr : (rd0 (toksR T) 0).rest = (5, [40]) :: (3, [49]) :: (3, 45 :: dig3 n) :: [(5, [41])] := by unfold Rd.rest; dsimp only; rw [List.drop_zero, hkt]; rfl
  have c1 := Rd.rest_cons hr
  have c2 := Rd.rest_cons c1.2
  have s1 := Rd.see_rest (r := rd0 (toksR T) 0) rfl hr
  have s2 : (rd0 (toksR T) 0).step.see 5 [40] = false := Rd.see_no (x := (5, [40])) (by rw [c1.2]; simp)
  have t1 := Rd.term_any (r := (rd0 (toksR T) 0).step) (t := ⟨[], ⟨1, 1, []⟩⟩) rfl c1.2 (by decide +kernel)
  have no : ∀ x : Bs, (rd0 (toksR T) 0).step.step.see 5 x = false := fun x => Rd.see_no (x := (5, x)) (by rw [c2.2]; simp)
  have hrk : (rd0 (toksR T) 0).step.step.reckons = (0, (rd0 (toksR T) 0).step.step.fail) := by
    unfold Rd.reckons; rw [no, no, no]; rfl
  have hp1 : (rd0 (toksR T) 0).step.part 14 = ([⟨2, [], ⟨1, 1, []⟩⟩], (rd0 (toksR T) 0).step.step) := by
    unfold Rd.part; rw [s2, t1]; rfl
  have hp : (rd0 (toksR T) 0).part 15 = ([], (rd0 (toksR T) 0).step.step.fail) := by
    rw [Rd.part, if_pos s1]; dsimp only; rw [hp1]; dsimp only; rw [hrk]; rfl
  have hx : (rd0 (toksR T) 0).expr = ([], (rd0 (toksR T) 0).step.step.fail) := by
    unfold Rd.expr; rw [if_pos (show (rd0 (toksR T) 0).isOpen = true from rfl), hp]; rfl
  unfold readX
  rw [hx]
  show (min 2 (toksR T).length, (7 : Int)) = (2, 7)
  rw [hlen]; rfl
def twoK (s : Bs) : List (Bs × KT) := [([], (5, [40])), ([], (3, [49])), ([32], (5, [45])), ([32], (3, s)), ([], (5, [41]))]
theorem read_minus2 {n : Nat} (h : n < 1000) : errR ([40, 49, 32, 45, 32] ++ dig3 n ++ [41]) = 0 ∧ (readX (toksR ([40, 49, 32, 45, 32] ++ dig3 n ++ [41])) 0).1.length = 3 ∧ (readX (toksR ([40, 49, 32, 45, 32] ++ dig3 n ++ [41])) 0).2.2 = 0 := by
  obtain ⟨d1, d2, d3⟩ := num_dig h
  obtain ⟨v1, v2, v3⟩ := val_dig h
  have hwv : WovK [] (twoK (dig3 n)) := ⟨rfl, rfl, rfl, rfl, by unfold Tk; decide +kernel, okEnd_stop rfl, rfl, by unfold Tk; decide +kernel, okEnd_stop rfl, rfl, tk_num (by rw [d1]; rfl), okEnd_stop rfl, rfl, rfl, rfl, trivial⟩
  have e : weaveK (twoK (dig3 n)) ++ [] = [40, 49, 32, 45, 32] ++ dig3 n ++ [41] := by simp [twoK, weaveK]
  obtain ⟨r1, r2, _⟩ := wovK_R hwv rfl
  rw [e] at r1 r2
  generalize [40, 49, 32, 45, 32] ++ dig3 n ++ [41] = T at *
  have hkt : (toksR T).map kt = (twoK (dig3 n)).map (·.2) := by rw [r1, posL_kt]
  refine ⟨r2, ?_⟩
  have hr : (rd0 (toksR T) 0).rest = (5, [40]) :: (3, [49]) :: (5, opT 4) :: (3, dig3 n) :: [(5, [41])] := by unfold Rd.rest; dsimp only; rw [List.drop_zero, hkt]; rfl
  have c1 := Rd.rest_cons hr
  have c2 := Rd.rest_cons c1.2
  have c3 := Rd.rest_cons c2.2
  have c4 := Rd.rest_cons c3.2
  generalize hq : rd0 (toksR T) 0 = q at *
  have ho : q.isOpen = true := by rw [← hq]; rfl
  have s1 := Rd.see_rest ho hr
  have s2 : q.step.see 5 [40] = false := Rd.see_no (x := (5, [40])) (by rw [c1.2]; simp)
  have t1 := Rd.term_any (r := q.step) (t := ⟨[], ⟨1, 1, []⟩⟩) ho c1.2 (by decide +kernel)
  have hrk := Rd.reckons_rest (r := q.step.step) ho (.inr (.inl rfl)) c2.2
  have s3 : q.step.step.step.see 5 [40] = false := Rd.see_no (x := (5, [40])) (by rw [c3.2]; simp)
  have t2 := Rd.term_any (r := q.step.step.step) ho c3.2 v1
  have hp1 : q.step.part 14 = ([⟨2, [], ⟨1, 1, []⟩⟩], q.step.step) := by
    unfold Rd.part; rw [s2, t1]; rfl
  have hp2 : q.step.step.step.part 14 = ([⟨2, [], ⟨1, n, []⟩⟩], q.step.step.step.step) := by
    unfold Rd.part; rw [s3, t2]; rfl
  have hwn := Rd.want_rest (r := q.step.step.step.step) ho (x := (5, [41])) c4.2
  have ho2 : q.step.step.step.isOpen = true := ho
  have hp : q.part 15 = ([⟨2, [], ⟨1, 1, []⟩⟩, ⟨2, [], ⟨1, n, []⟩⟩, ⟨4, [], zeroV⟩], q.step.step.step.step.step) := by
    rw [Rd.part, if_pos s1]; dsimp only; rw [hp1]; dsimp only; rw [hrk]; dsimp only; rw [if_pos ho2, hp2]; dsimp only
    exact Prod.ext rfl hwn
  have hx : q.expr = ([⟨2, [], ⟨1, 1, []⟩⟩, ⟨2, [], ⟨1, n, []⟩⟩, ⟨4, [], zeroV⟩], q.step.step.step.step.step) := by
    unfold Rd.expr; rw [if_pos ho, hp]; rfl
  have hE : q.step.step.step.step.step.endE = 0 := by rw [← hq]; rfl
  unfold readX
  rw [hq, hx]
  dsimp only
  rw [hE]
  exact ⟨rfl, rfl⟩
/-! parts -/
def pushB (o : Stp) : Bool := decide (o.k = 1 ∨ o.k = 2)
/-- backwards: how many steps until the need is met -/
def scan : List Stp → Int → Option Nat
  | [], _ => none
  | o :: r, need => let m := if pushB o then need - 1 else need + 1; if m = 0 then some 1 else (scan r m).map (· + 1)
namespace Tree
theorem scan_ops : ∀ {T : Tree}, T.ok = true → ∀ (r : List Stp) (need : Int), 1 ≤ need → scan (T.ops.reverse ++ r) need = if need = 1 then some T.size else (scan r (need - 1)).map (· + T.size)
  | leaf t, h, r, need, hn => by
    have hp : pushB ⟨if t.v = [] then 2 else 1, t.v, t.x⟩ = true := by unfold pushB; dsimp only; split <;> decide
    simp only [ops, List.reverse_cons, List.reverse_nil, List.nil_append, List.cons_append, scan, hp, if_true, size]
    by_cases h1 : need = 1
    · rw [if_pos h1, if_pos (by omega)]
    · rw [if_neg h1, if_neg (by omega)]
  | node k a b, h, r, need, hn => by
    simp only [ok, Bool.and_eq_true, decide_eq_true_eq] at h
    have hp : pushB ⟨k, [], zeroV⟩ = false := by unfold pushB; rw [decide_eq_false_iff_not]; dsimp only; omega
    have e : (node k a b).ops.reverse ++ r = ⟨k, [], zeroV⟩ :: (b.ops.reverse ++ (a.ops.reverse ++ r)) := by simp [ops]
    rw [e]
    simp only [scan, hp]
    have hz : ¬ need + 1 = 0 := by omega
    have hm : (if false = true then need - 1 else need + 1) = need + 1 := if_neg (by simp)
    rw [hm, if_neg hz, scan_ops h.2 _ _ (by omega), if_neg (by omega), Int.add_sub_cancel, scan_ops h.1.2 _ _ hn]
    simp only [size]
    by_cases h1 : need = 1
    · rw [if_pos h1, if_pos h1]; simp only [Option.map_some]
    · rw [if_neg h1, if_neg h1]
      cases scan r (need - 1) with
      | none => rfl
      | some n => simp only [Option.map_some]; congr 1; omega
end Tree
end Go.PV
namespace Go.PV
open Go Go.Proofs
set_option maxRecDepth 100000
theorem cut1 : ∀ m : Nat, m < 10 → List.drop ((m : Nat) : Int).toNat (List.take ((m + 1 : Nat) : Int).toNat (ByteArray.mk #[48, 49, 50, 51, 52, 53, 54, 55, 56, 57]).data.toList) = [UInt8.ofNat (48 + m)] := by decide
theorem atomsWords_good (how more : Int) {p1 p2 : Prop} (_ : p1) (_ : p2) :
    Good Tryz.prog 7 [.int .i64 how, .int .i64 more] [] [.bool true] [] := by
  refine good_of hP Tryz.func7 (by kernel_rfl) (lv := [0, 1, 4, 5, 6, 7, 8, 9, 10, 12, 13, 15, 17, 18, 19, 21, 22, 24, 25]) (js := []) ⟨rfl, rfl, rfl, rfl, rfl, rfl, _, rfl, ?_⟩
  obtain ⟨n, hn, hnw⟩ := modk (m := 1000) (by omega) (by omega) more
  obtain ⟨k, hk, hkw⟩ := modk (m := 11) (by omega) (by omega) how
  conv => whnf
  refine ⟨⟨⟩, by decide, ?_⟩
  conv => whnf
  refine ⟨⟨⟩, by decide, ?_⟩
  conv => whnf
  rw [hnw, hkw]
  have hkl : k < wordsL.length := by have : wordsL.length = 11 := rfl; omega
  obtain ⟨w, hwl, hwm, hwn⟩ : ∃ w, wordsL[k]? = some w ∧ w ∈ wordsL ∧ w.length ≤ 10 := ⟨wordsL[k], List.getElem?_eq_getElem hkl, List.getElem_mem hkl, (sym_words _ (List.getElem_mem hkl)).2⟩
  have hwe : wordsL[k] = w := by rw [List.getElem?_eq_getElem hkl] at hwl; exact Option.some.inj hwl
  refine ⟨⟨⟩, idxB (f := fun t => [V.str t]) hkl rfl, ?_⟩
  conv => whnf
  refine ⟨[.str w], by rw [← hwe]; exact (idxM (f := fun t => [V.str t]) hkl rfl).2, ?_⟩
  conv => whnf
  have q1 : IntKind.i64.wrap ((n : Int).tdiv 100) = ((n / 100 : Nat) : Int) := by
    rw [Int.tdiv_eq_ediv_of_nonneg (by omega), wr (by omega) (by omega)]; omega
  have q2 : IntKind.i64.wrap ((n : Int).tdiv 10) = ((n / 10 : Nat) : Int) := by
    rw [Int.tdiv_eq_ediv_of_nonneg (by omega), wr (by omega) (by omega)]; omega
  have q3 : ((n / 10 : Nat) : Int).tmod 10 = ((n / 10 % 10 : Nat) : Int) := by
    rw [Int.tmod_eq_emod_of_nonneg (by omega)]; omega
  have q4 : (n : Int).tmod 10 = ((n % 10 : Nat) : Int) := by
    rw [Int.tmod_eq_emod_of_nonneg (by omega)]; omega
  have q5 : ∀ m : Nat, m < 10 → IntKind.i64.wrap ((m : Int) + 1) = ((m + 1 : Nat) : Int) := fun m h => by
    rw [wr (by omega) (by omega)]; omega
  refine ⟨⟨⟩, by decide, ?_⟩
  conv => whnf
  rw [q1]
  refine ⟨⟨⟩, by decide, ?_⟩
  conv => whnf
  rw [q5 (n / 100) (by omega)]
  refine ⟨⟨⟩, ⟨by omega, by omega, by show _ ≤ (10 : Int); omega⟩, ?_⟩
  conv => whnf
  refine ⟨⟨⟩, by decide, ?_⟩
  conv => whnf
  rw [q2]
  refine ⟨⟨⟩, by decide, ?_⟩
  conv => whnf
  rw [q3]
  refine ⟨⟨⟩, by decide, ?_⟩
  conv => whnf
  rw [q2]
  refine ⟨⟨⟩, by decide, ?_⟩
  conv => whnf
  rw [q3, q5 (n / 10 % 10) (by omega)]
  refine ⟨⟨⟩, ⟨by omega, by omega, by show _ ≤ (10 : Int); omega⟩, ?_⟩
  conv => whnf
  rw [cut1 _ (by omega), cut1 _ (by omega)]
  refine ⟨⟨⟩, by show (1 + 1 : Nat) ≤ 9223372036854775807; omega, ?_⟩
  conv => whnf
  refine ⟨⟨⟩, by decide, ?_⟩
  conv => whnf
  rw [q4]
  refine ⟨⟨⟩, by decide, ?_⟩
  conv => whnf
  rw [q5 (n % 10) (by omega)]
  refine ⟨⟨⟩, ⟨by omega, by omega, by show _ ≤ (10 : Int); omega⟩, ?_⟩
  conv => whnf
  rw [cut1 _ (by omega)]
  refine ⟨⟨⟩, by show (2 + 1 : Nat) ≤ 9223372036854775807; omega, ?_⟩
  conv => whnf
  have hd : (([UInt8.ofNat (48 + n / 100)] : Bs) ++ [UInt8.ofNat (48 + n / 10 % 10)] ++ [UInt8.ofNat (48 + n % 10)]) = dig3 n := rfl
  have hn : n < 1000 := by omega
  have e1 := parse_words hwm hn
  have e2 : (parseA (w ++ [40, 49, 41])).2 = 7 := of_decide_eq_true (List.all_eq_true.1 word_bad w hwm)
  obtain ⟨e3, e4⟩ := read_minus hn
  obtain ⟨e5, e6, e7⟩ := read_minus2 hn
  have hsl : (dig3 n).length = 3 := rfl
  generalize dig3 n = s at *
  have hd : V.str (([UInt8.ofNat (48 + n / 100)] : Bs) ++ [UInt8.ofNat (48 + n / 10 % 10)] ++ [UInt8.ofNat (48 + n % 10)]) = V.str s := by rw [hd]
  rw [hd]
  refine ⟨by kernel_rfl, ?_⟩
  conv => whnf
  refine ⟨⟨⟩, by dsimp only; simp only [List.length_append, List.length_cons, List.length_nil]; omega, ?_⟩
  conv => whnf
  refine ⟨⟨⟩, by dsimp only; simp only [List.length_append, List.length_cons, List.length_nil]; omega, ?_⟩
  conv => whnf
  refine ⟨⟨⟩, by dsimp only; simp only [List.length_append, List.length_cons, List.length_nil]; omega, ?_⟩
  conv => whnf
  refine ⟨⟨⟩, by dsimp only; simp only [List.length_append, List.length_cons, List.length_nil]; omega, ?_⟩
  conv => whnf
  refine ⟨⟨⟩, by dsimp only; simp only [List.length_append, List.length_cons, List.length_nil]; omega, ?_⟩
  conv => whnf
  refine ⟨⟨⟩, by dsimp only; simp only [List.length_append, List.length_cons, List.length_nil]; omega, ?_⟩
  conv => whnf
  conv => whnf
  refine call0 (parseA_good ([112, 40] ++ w ++ [44, 32, 48] ++ s ++ [44, 32, 45] ++ s ++ [41]) (by simp only [List.length_append, List.length_cons, List.length_nil]; omega)) ?_
  rw [e1]
  conv => whnf
  refine ⟨⟨⟩, by show w.length + 3 ≤ 9223372036854775807; omega, ?_⟩
  conv => whnf
  refine call0 (parseA_good (w ++ [40, 49, 41]) (by simp only [List.length_append, List.length_cons, List.length_nil]; omega)) ?_
  rw [e2]
  generalize (parseA (w ++ [40, 49, 41])).1 = z1
  conv => whnf
  refine ⟨⟨⟩, by show 4 + s.length ≤ 9223372036854775807; omega, ?_⟩
  conv => whnf
  refine ⟨⟨⟩, by show (([40, 49, 32, 45] : Bs) ++ s).length + 1 ≤ 9223372036854775807; rw [List.length_append, hsl]; decide, ?_⟩
  conv => whnf
  have hb1 := tokB_R ([40, 49, 32, 45] ++ s ++ [41]) (by simp only [List.length_append, List.length_cons, List.length_nil]; omega)
  have hb2 := tokB_R ([40, 49, 32, 45, 32] ++ s ++ [41]) (by simp only [List.length_append, List.length_cons, List.length_nil]; omega)
  refine call0 (tokens_good ([40, 49, 32, 45] ++ s ++ [41]) (by simp only [List.length_append, List.length_cons, List.length_nil]; omega)) ?_
  rw [e3]
  generalize posR ([40, 49, 32, 45] ++ s ++ [41]) = z2
  generalize toksR ([40, 49, 32, 45] ++ s ++ [41]) = l1 at *
  conv => whnf
  refine call0 (readX_good l1 0 hb1 (Nat.zero_le _)) ?_
  rw [e4]
  generalize (readX l1 0).1 = z3
  conv => whnf
  refine ⟨⟨⟩, by show 5 + s.length ≤ 9223372036854775807; omega, ?_⟩
  conv => whnf
  refine ⟨⟨⟩, by show (([40, 49, 32, 45, 32] : Bs) ++ s).length + 1 ≤ 9223372036854775807; rw [List.length_append, hsl]; decide, ?_⟩
  conv => whnf
  refine call0 (tokens_good ([40, 49, 32, 45, 32] ++ s ++ [41]) (by simp only [List.length_append, List.length_cons, List.length_nil]; omega)) ?_
  rw [e5]
  generalize posR ([40, 49, 32, 45, 32] ++ s ++ [41]) = z4
  generalize toksR ([40, 49, 32, 45, 32] ++ s ++ [41]) = l2 at *
  conv => whnf
  refine call0 (readX_good l2 0 hb2 (Nat.zero_le _)) ?_
  rw [e7]
  generalize readX l2 0 = z at *
  obtain ⟨z5, z6, z7⟩ := z
  have e6 : z5.length = 3 := e6
  conv => whnf
  have e8 : IntKind.i64.wrap (0 - (n : Int)) = -(n : Int) := by rw [wr (by omega) (by omega)]; omega
  rw [e8]
  refine call0 (keepAtom_good ⟨[112], [⟨[], ⟨2, 0, w⟩⟩, ⟨[], ⟨1, n, []⟩⟩, ⟨[], ⟨1, -n, []⟩⟩]⟩ ⟨[112], [⟨[], ⟨2, 0, w⟩⟩, ⟨[], ⟨1, n, []⟩⟩, ⟨[], ⟨1, -n, []⟩⟩]⟩ (by show (3 : Nat) ≤ 1000000; omega)) ?_
  rw [decide_eq_true rfl]
  conv => whnf
  refine branch_of (fun h => ?_) (fun h => ?_)
  · conv => whnf
    refine call0 (wakes10_good) ?_
    conv => whnf
    exact fin0 rfl trivial
  · have h := of_decide_eq_false h
    have e9 : (stpV z5).length = 3 := by rw [List.length_map, e6]
    exact absurd (show ((stpV z5).length : Int) = 3 by rw [e9]; rfl) h
end Go.PV
namespace Go.PV
open Go Go.RowKit
/-! an argument that can be read as data, as plain data -/
def cel (w : World) (b o : Nat) (u : Value) : Prop := w.cell? ⟨b, o, none⟩ = some u
def CellsW (w : World) (l : List V) (cs : List Value) : Prop := cs.length = l.length ∧ ∀ (j : Nat) (p : V), l[j]? = some p → ∃ u, cs[j]? = some u ∧ Sh (cel w) p u
theorem CellsW.one {w : World} {p : V} {u : Value} (h : Sh (cel w) p u) : CellsW w [p] [u] := ⟨rfl, fun j q hj => by
  cases j with
  | zero => simp at hj; subst hj; exact ⟨u, rfl, h⟩
  | succ j => simp at hj⟩
theorem CellsW.append {w : World} {l m : List V} {cs ds : List Value} (h : CellsW w l cs) (k : CellsW w m ds) : CellsW w (l ++ m) (cs ++ ds) := ⟨by simp [h.1, k.1], fun j p hj => by
  rcases Nat.lt_or_ge j l.length with hl | hl
  · rw [List.getElem?_append_left hl] at hj
    rw [List.getElem?_append_left (by rw [h.1]; exact hl)]; exact h.2 j p hj
  · rw [List.getElem?_append_right hl] at hj
    rw [List.getElem?_append_right (by rw [h.1]; exact hl), h.1]; exact k.2 _ p hj⟩
structure OpensV {α : Type} (n : Nat) (c : α → List V) (P : Program) (t : TypeId) (ok : α → Prop) : Prop where
  cells : P.cellsOf t = n
  len : ∀ v, (c v).length = n
  opens : ∀ {H : Type} {enc : TypeId × Value → H} {w : World} {base : Nat} {spare : Nat → Bool} {held : Bool} {fuel : Nat} {cs : List Value} {x : DataW H × List MemPlace},
    DataW.trod enc P w base spare held fuel t cs = some x → ∃ v, CellsW w (c v) cs ∧ ok v
section
variable {P : Program} {t : TypeId}
theorem OpensV.mono {α : Type} {n : Nat} {c : α → List V} {ok ok' : α → Prop} (h : OpensV n c P t ok) (hm : ∀ v, ok v → ok' v) : OpensV n c P t ok' :=
  ⟨h.cells, h.len, fun hx => by obtain ⟨v, h1, h2⟩ := h.opens hx; exact ⟨v, h1, hm v h2⟩⟩
theorem OpensV.int {k : IntKind} (hu : P.underlying t = some (.int k)) (hc : P.cellsOf t = 1) : OpensV 1 (fun n => [.int k n]) P t (fun n => (Lit.int k n).wf = true) :=
  ⟨hc, fun _ => rfl, fun hx => by obtain ⟨m, rfl, rfl, hw⟩ := DataW.trod_int hu hx; exact ⟨m, .one (.int _ _), hw⟩⟩
theorem OpensV.string (hu : P.underlying t = some .string) (hc : P.cellsOf t = 1) : OpensV 1 (fun s : List UInt8 => [.str s]) P t (fun s => s.length ≤ maxLen) :=
  ⟨hc, fun _ => rfl, fun hx => by obtain ⟨s, rfl, _, hw⟩ := DataW.trod_string hu hx; exact ⟨s.data.toList, .one (.str _), hw⟩⟩
theorem OpensV.bool (hu : P.underlying t = some .bool) (hc : P.cellsOf t = 1) : OpensV 1 (fun b => [.bool b]) P t (fun _ => True) :=
  ⟨hc, fun _ => rfl, fun hx => by obtain ⟨b, rfl, _⟩ := DataW.trod_bool hu hx; exact ⟨b, .one (.bool _), trivial⟩⟩
theorem OpensV.iso {α β : Type} {n : Nat} {c : α → List V} {ok : α → Prop} {f : β → α} (g : α → β) (hg : ∀ a, f (g a) = a) (h : OpensV n c P t ok) : OpensV n (fun b => c (f b)) P t (fun b => ok (f b)) :=
  ⟨h.cells, fun b => h.len (f b), fun hx => by
    obtain ⟨v, h1, h2⟩ := h.opens hx
    exact ⟨g v, by rw [hg]; exact h1, by rw [hg]; exact h2⟩⟩
/-- fields that lie side by side from off on -/
structure OpensVs {α : Type} (n : Nat) (c : α → List V) (P : Program) (fs : List Field) (off : Nat) (ok : α → Prop) : Prop where
  len : ∀ v, (c v).length = n
  opens : ∀ {H : Type} {enc : TypeId × Value → H} {w : World} {base : Nat} {spare : Nat → Bool} {held : Bool} {fuel : Nat} {cs : List Value},
    off + n = cs.length → (∀ (i : Nat) (f : Field), fs[i]? = some f → ∃ x, DataW.trod enc P w base spare held fuel f.type ((cs.drop f.offset).take (P.cellsOf f.type)) = some x) → ∃ v, CellsW w (c v) (cs.drop off) ∧ ok v
theorem OpensVs.one {α : Type} {n : Nat} {c : α → List V} {f : Field} {off : Nat} {ok : α → Prop} (ho : f.offset = off) (h : OpensV n c P f.type ok) : OpensVs n c P [f] off ok := by
  refine ⟨h.len, ?_⟩
  intro H enc w base spare held fuel cs hl hx
  obtain ⟨x, hx⟩ := hx 0 f rfl
  rw [ho, h.cells, List.take_of_length_le (by simp; omega)] at hx
  exact h.opens hx
theorem OpensVs.cons {α β : Type} {n m : Nat} {c : α → List V} {d : β → List V} {f : Field} {fs : List Field} {off : Nat} {ok : α → Prop} {ok' : β → Prop} (ho : f.offset = off) (h : OpensV n c P f.type ok) (h' : OpensVs m d P fs (off + n) ok') :
    OpensVs (n + m) (fun v : α × β => c v.1 ++ d v.2) P (f :: fs) off (fun v => ok v.1 ∧ ok' v.2) := by
  refine ⟨fun v => by rw [List.length_append, h.len, h'.len], ?_⟩
  intro H enc w base spare held fuel cs hl hx
  obtain ⟨x, hx0⟩ := hx 0 f rfl
  rw [ho, h.cells] at hx0
  obtain ⟨v, hv, ov⟩ := h.opens hx0
  obtain ⟨u, hu, ou⟩ := h'.opens (cs := cs) (by omega) (fun i g hg => hx (i + 1) g hg)
  refine ⟨(v, u), ?_, ov, ou⟩
  have := hv.append hu
  rwa [← List.drop_drop, List.take_append_drop] at this
theorem OpensV.struct {α : Type} {n : Nat} {c : α → List V} {fs : Array Field} {ok : α → Prop} (hu : P.underlying t = some (.struct fs)) (hc : P.cellsOf t = n) (h : OpensVs n c P fs.toList 0 ok) : OpensV n c P t ok := by
  refine ⟨hc, h.len, ?_⟩
  intro H enc w base spare held fuel cs x hx
  obtain ⟨xs, n, rfl, _, hl, hxl, hf⟩ := DataW.trod_struct hu hx
  have := h.opens (cs := cs) (enc := enc) (w := w) (base := base) (spare := spare) (held := held) (fuel := n) (by omega) (by
    intro i f hi
    have hi' : fs[i]? = some f := by simpa using hi
    have hlt : i < xs.length := by
      rw [hxl]
      exact (Array.getElem?_eq_some_iff.1 hi').1
    exact ⟨xs[i], by rw [hf i f hi', List.getElem?_eq_getElem hlt]⟩)
  simpa using this
theorem list_of {α : Type} {Q : Nat → α → Prop} : ∀ n : Nat, (∀ i, i < n → ∃ v, Q i v) → ∃ l : List α, l.length = n ∧ ∀ i v, l[i]? = some v → Q i v := by
  intro n
  induction n with
  | zero => intro _; exact ⟨[], rfl, fun i v h => by simp at h⟩
  | succ n ih =>
    intro h
    obtain ⟨l, hl, hq⟩ := ih (fun i hi => h i (by omega))
    obtain ⟨v, hv⟩ := h n (by omega)
    refine ⟨l ++ [v], by simp [hl], ?_⟩
    intro i u hu
    by_cases hi : i < l.length
    · rw [List.getElem?_append_left hi] at hu
      exact hq i u hu
    · rw [List.getElem?_append_right (by omega)] at hu
      have h0 : i - l.length = 0 := by
        by_cases h0 : i - l.length = 0
        · exact h0
        · rw [List.getElem?_eq_none (by simp; omega)] at hu; cases hu
      rw [h0] at hu
      simp at hu
      subst hu
      have : i = n := by omega
      subst this
      exact hv
theorem cell_spot {w : World} {a : Addr} {u : Value} (h : w.cell? a = some u) : a.spot = none := by
  unfold World.cell? at h
  split at h
  · cases hs : a.spot with
    | none => rfl
    | some s => rw [hs] at h; simp at h
  · cases h
/-- a slice that is read as data -/
theorem OpensV.row {α : Type} {n : Nat} {c : α → List V} {e : TypeId} {ok : α → Prop} (h : OpensV n c P e ok) (h0 : 0 < n) (hu : P.underlying t = some (.slice e))
    {H : Type} {enc : TypeId × Value → H} {w : World} {base : Nat} {spare : Nat → Bool} {held : Bool} {fuel : Nat} {cs : List Value} {x : DataW H × List MemPlace}
    (hx : DataW.trod enc P w base spare held fuel t cs = some x) : ∃ (l : List α) (A : Option Addr) (cap : Nat), cs = [.slice A l.length cap] ∧ Sh (cel w) (.sl n (l.map c)) (.slice A l.length cap) ∧ l.length ≤ cap ∧ cap ≤ maxLen ∧ ∀ v ∈ l, ok v := by
  rcases DataW.trod_slice hu hx with ⟨hcs, _⟩ | ⟨a, len, cap, elems, rest, m, rfl, hcs, _, hb, hl, hm, hlen, hel, _⟩
  · exact ⟨[], none, 0, hcs, .sl0 _ _ _, Nat.le_refl _, by unfold maxLen; omega, fun v hv => by simp at hv⟩
  · obtain ⟨l, hll, hq⟩ := list_of (Q := fun i v => ∃ cs, w.cells? base (a.add (i * P.cellsOf e)) (P.cellsOf e) = some cs ∧ CellsW w (c v) cs ∧ ok v) len (by
      intro i hi
      have h1 := hel i hi
      rw [List.getElem?_eq_getElem (by omega), Option.bind_eq_some_iff] at h1
      obtain ⟨cs, h2, h3⟩ := h1
      obtain ⟨v, h4, h5⟩ := h.opens h3
      exact ⟨v, cs, h2, h4, h5⟩)
    have hok : ∀ v ∈ l, ok v := by
      intro v hv
      obtain ⟨i, hi⟩ := List.getElem?_of_mem hv
      obtain ⟨_, _, _, h5⟩ := hq i v hi
      exact h5
    refine ⟨l, some a, cap, by rw [hll]; exact hcs, ?_, by omega, hm, hok⟩
    by_cases hz : l = []
    · subst hz; exact .sl0 _ _ _
    have at_ : ∀ (i : Nat) (v : α) (j : Nat) (p : V), l[i]? = some v → (c v)[j]? = some p → ∃ u, w.cell? ((a.add (i * n)).add j) = some u ∧ Sh (cel w) p u := by
      intro i v j p hi hj
      obtain ⟨cs, h2, h4, _⟩ := hq i v hi
      obtain ⟨_, h6, h7⟩ := World.cells?_some h2
      obtain ⟨u, h8, h9⟩ := h4.2 j p hj
      have hlt : j < P.cellsOf e := by rw [← h6]; exact (List.getElem?_eq_some_iff.1 h8).1
      have h10 := h7 j hlt
      rw [h.cells, h8] at h10
      exact ⟨u, h10, h9⟩
    have hsp : a.spot = none := by
      obtain ⟨v, r, rfl⟩ := List.exists_cons_of_ne_nil hz
      have h1 : 0 < (c v).length := by rw [h.len]; exact h0
      obtain ⟨u, h2, _⟩ := at_ 0 v 0 _ rfl (List.getElem?_eq_getElem h1)
      have := cell_spot h2
      simpa [Addr.add] using this
    obtain ⟨b, off, sp⟩ := a
    simp only at hsp
    subst hsp
    have hadd : ∀ i j : Nat, ((⟨b, off, none⟩ : Addr).add (i * n)).add j = ⟨b, off + i * n + j, none⟩ := fun i j => by
      rw [Addr.add_none, Addr.add_none]
    have hml : (l.map c).length = l.length := List.length_map _
    rw [← hml]
    refine .sl n (l.map c) b off cap (fun i j => (w.cell? ⟨b, off + i * n + j, none⟩).getD undef) h0 (fun i x hx => ?_) (by rw [hml]; omega) (fun i x j p hx hj => ?_) (fun i x j p hx hj => ?_)
    · rw [List.getElem?_map, Option.map_eq_some_iff] at hx
      obtain ⟨v, _, rfl⟩ := hx; exact h.len v
    · rw [List.getElem?_map, Option.map_eq_some_iff] at hx
      obtain ⟨v, hi, rfl⟩ := hx
      obtain ⟨u, h2, _⟩ := at_ i v j p hi hj
      rw [hadd] at h2
      show w.cell? _ = _
      rw [h2]; rfl
    · rw [List.getElem?_map, Option.map_eq_some_iff] at hx
      obtain ⟨v, hi, rfl⟩ := hx
      obtain ⟨u, h2, h3⟩ := at_ i v j p hi hj
      rw [hadd] at h2
      rw [h2]; exact h3
theorem OpensV.slice {α : Type} {n : Nat} {c : α → List V} {e : TypeId} {ok : α → Prop} (h : OpensV n c P e ok) (h0 : 0 < n) (hu : P.underlying t = some (.slice e)) (hc : P.cellsOf t = 1) : OpensV 1 (fun l : List α => [.sl n (l.map c)]) P t (fun l => l.length ≤ maxLen ∧ ∀ v ∈ l, ok v) :=
  ⟨hc, fun _ => rfl, fun hx => by
    obtain ⟨l, A, cap, rfl, h2, h3, h4, h5⟩ := h.row h0 hu hx
    exact ⟨l, .one h2, Nat.le_trans h3 h4, h5⟩⟩
/-- an argument that is a slice -/
theorem OpensV.arg {α : Type} {n : Nat} {c : α → List V} {e : TypeId} {ok : α → Prop} (h : OpensV n c P e ok) (h0 : 0 < n) (hu : P.underlying t = some (.slice e))
    {H : Type} {enc : TypeId × Value → H} {w : World} {r : Reach} {base b0 : Nat} {spare : Nat → Bool} {held : Bool} {v : Value} {x : DataW H} {ps : List MemPlace}
    (hv : Value.okWide P w r b0 t v) (hx : DataW.Trod enc P w base spare held t v x ps) : ∃ l : List α, Sh (cel w) (.sl n (l.map c)) v ∧ l.length ≤ maxLen ∧ ∀ v ∈ l, ok v := by
  obtain ⟨a, len, cap, rfl⟩ := Go.WideShapes.okWide_slice hu hv
  obtain ⟨fuel, hf⟩ := hx
  have hf' : DataW.trod enc P w base spare held fuel t [.slice a len cap] = some (x, ps) := hf
  obtain ⟨l, A, cp, h1, h2, h3, h4, h5⟩ := h.row h0 hu hf'
  cases h1
  exact ⟨l, h2, Nat.le_trans h3 h4, h5⟩
/-- an argument that is a struct -/
theorem OpensV.agg {α : Type} {n : Nat} {c : α → List V} {ok : α → Prop} (h : OpensV n c P t ok) {fs : Array Field} (hu : P.underlying t = some (.struct fs))
    {H : Type} {enc : TypeId × Value → H} {w : World} {r : Reach} {base b0 : Nat} {spare : Nat → Bool} {held : Bool} {v : Value} {x : DataW H} {ps : List MemPlace}
    (hv : Value.okWide P w r b0 t v) (hx : DataW.Trod enc P w base spare held t v x ps) : ∃ u cs, v = .agg ⟨cs⟩ ∧ CellsW w (c u) cs ∧ ok u := by
  obtain ⟨cs, rfl, _⟩ := Go.WideShapes.okWide_struct hu hv
  obtain ⟨fuel, hf⟩ := hx
  obtain ⟨u, h1, h2⟩ := h.opens hf
  exact ⟨u, cs.toList, rfl, h1, h2⟩
end
/-- what nothing owns -/
def G0 : Gh := { own := fun _ => ⟨none, none⟩, blk := fun _ => 0, cap := fun _ => 0, isnil := fun _ => false }
theorem sh0 {w : World} {p : V} {v : Value} (h : Sh (cel w) p v) : Sh (stab G0 w) p v := h.mono fun b o c hc => ⟨fun l hl => (by cases hl), hc⟩
theorem ra0 {w : World} {O : Tb} {p : V} {v : Value} (h : Sh (cel w) p v) : RA G0 w O p v := .cell _ _ (.sh _ _ (sh0 h))
theorem raAgg {w : World} {O : Tb} {l : List V} {cs : List Value} (h : CellsW w l cs) : RA G0 w O (.agg l) (.agg ⟨cs⟩) :=
  .agg _ _ ⟨by simpa using h.1, fun j p hj => by obtain ⟨u, h1, h2⟩ := h.2 j p hj; exact ⟨u, by simpa using h1, .sh _ _ (sh0 h2)⟩⟩
/-- pair by pair -/
inductive Each (R : V → Value → Prop) : List V → List Value → Prop
  | nil : Each R [] []
  | cons {p v ps vs} (h : R p v) (k : Each R ps vs) : Each R (p :: ps) (v :: vs)
theorem cellsOf {R : V → Value → Prop} : ∀ {ps : List V} {vs : List Value}, Each R ps vs → Cells R ps ⟨vs⟩
  | [], [], _ => ⟨rfl, fun j p hj => by simp at hj⟩
  | p :: ps, v :: vs, .cons h1 h2 => by
    have ih := cellsOf h2
    refine ⟨by have := ih.1; simp at this ⊢; omega, fun j q hj => ?_⟩
    cases j with
    | zero => simp at hj; subst hj; exact ⟨v, rfl, h1⟩
    | succ j => obtain ⟨c, h3, h4⟩ := ih.2 j q (by simpa using hj); exact ⟨c, by simpa using h3, h4⟩
/-- a law's call -/
theorem law_calls {P : Program} [Env P] {f : FuncId} {args : List V} {vs : List Value} {w : World} (h : Good P f args [] [.bool true] []) (hc : Each (RA G0 w (tbl [])) args vs) (hn : Env.ng P ≤ w.heap.size) (hz : Env.Z P w) :
    Calls P f ⟨vs⟩ w fun e w' => e = .returned (.bool true) ∧ Below w.heap.size w w' :=
  (h.run ⟨vs⟩ w G0 (cellsOf hc) (fun k o hk => by simp at hk) (fun k hk => ⟨by omega, rfl⟩) hz).mono fun e w' hh => by
    obtain ⟨rv, G', h1, h2, _, h3⟩ := hh
    refine ⟨?_, ⟨h3.sys, h3.tape, h3.output, h3.size, fun k hk => (h3.im k hk rfl).2⟩⟩
    rw [h1]
    cases (show RA G' w' (tbl []) (.bool true) rv from h2).bool_eq
    rfl
end Go.PV
namespace Go.PV
open Go Go.RowKit Go.Proofs
/-! what is known of arguments of these types -/
end Go.PV
namespace Go.PV
open Go
/-! a row's closed facts, one by one -/
theorem joined_of {P : Program} {f : FuncId} {fn : Func} {s : ChangeSpec} {c : OpenClaim} (h1 : c.wf (OpenSpec.ofChange s) = true) (h2 : laidOutB P = true) (h3 : mapsRowed P = true) (h4 : namedTie P c.named s.vars = true)
    (h5 : (P.stops == []) = true) (h6 : (P.stopKnobs == []) = true) (h7 : (c.inPlace == P.inPlace f) = true) (h8 : (c.unfollowed == P.unfollowed f) = true) (h9 : (c.recurses == P.recurses f) = true) (h10 : (c.named == P.varsNamed f) = true)
    (h11 : (c.plainKeys == P.plainKeys) = true) (h12 : P.stopsHeard = true) (h13 : P.mayEnter = true) (h14 : (c.lifted == P.liftsFinal) = true) (h15 : (P.make == some c.make) = true)
    (h16 : (fn.params.all (P.readableRec ·) && (c.stops == []) && (c.knobs == []) &&
      (c.maps == (fn.params.toList ++ s.plain.varTypes P).any (P.mapsRec ·)) && (c.ifaces == (fn.params.toList ++ s.plain.varTypes P).any (P.ifacesRec ·)) && (c.mapsOut == P.mapsAmong fn.resultTypes.toList) &&
      (c.loops == (fn.params.toList ++ s.plain.varTypes P).any (P.loopsFrom ·)) && (c.wideKeys == (fn.params.toList ++ s.plain.varTypes P ++ fn.resultTypes.toList).any (P.wideKeysFrom ·)) &&
      s.vars.all (P.varReadable ·) && fn.resultTypes.all (fun t => P.readableRec t && decide (t < P.types.size)) && (c.ifacesOut == fn.resultTypes.toList.any (P.ifacesRec ·)) && (c.loopsOut == fn.resultTypes.toList.any (P.loopsFrom ·)) && c.shortTexts.isNone &&
      (c.kinds == (if c.domain.isEmpty then [] else fn.params.toList.map fun t => match P.underlying t with | some (.int k) => some k | _ => none)) && (c.pinned == c.pinnedBy) &&
      (c.veiled == (fn.params.toList ++ s.plain.varTypes P ++ fn.resultTypes.toList).any (P.veiledRec ·)) && c.veiledFits P fn.params.toList (fn.params.toList ++ s.plain.varTypes P ++ fn.resultTypes.toList)) = true) : joinedFacts P f fn s c = true := by
  unfold joinedFacts
  rw [h1, h2, h3, h4, h5, h6, h7, h8, h9, h10, h11, h12, h13, h14, h15]
  simp only [Bool.true_and, Bool.and_true]
  exact h16
end Go.PV
namespace Go.PV
open Go Go.RowKit Go.Lib Go.Proofs Go.Proofs.YtefolkppcdjbpaaGreatDoor
theorem pow_datum : (Rows.laid_internal_strconv_uint64pow10 : DataW Unit) = Lib.tabData .u64 Lib.pow10Tab := by kernel_rfl
theorem laidT_of {r : List (String × DataW Unit)} {W : World} (h : laidMet Tryz.prog (("internal/strconv.uint64pow10", Rows.laid_internal_strconv_uint64pow10) :: r) W) : Lib.TabIs Tryz.prog W "internal/strconv.uint64pow10" .u64 Lib.pow10Tab := by
  rw [pow_datum] at h
  exact tabIs_of_head (g := 5) (by kernel_rfl) (by kernel_rfl) Tryz.underlying178 Tryz.underlying155 (by kernel_rfl) (by kernel_rfl) h
theorem star_es : "*" ++ "errors.errorString" = "*errors.errorString" := by decide
theorem row_es (u : TypeId) (h : Tryz.prog.typeName? 3 u = some "*errors.errorString") : u = 174 :=
  typeName_ptr_named (nm := "errors.errorString") (by rw [star_es]; kernel_rfl) (by kernel_rfl) (by decide) u (by rw [star_es]; exact h)
theorem globRan_of {r : List (String × DataW Unit)} {W : World} (h : laidMet Tryz.prog (("strconv.ErrRange", Rows.laid_strconv_ErrRange) :: r) W) : ∃ tp p, W.var? Tryz.prog "strconv.ErrRange" = some #[.iface tp p] := by
  obtain ⟨a, s, hv, _⟩ := laid_sentinel (g := 2) h (by kernel_rfl) (by kernel_rfl) Tryz.underlying107 row_es Tryz.underlying174 Tryz.underlying176 rfl rfl Tryz.underlying9 (by kernel_rfl) (by kernel_rfl)
  exact ⟨_, _, hv⟩
theorem globSyn_of {r : List (String × DataW Unit)} {W : World} (h : laidMet Tryz.prog (("strconv.ErrSyntax", Rows.laid_strconv_ErrSyntax) :: r) W) : ∃ tp p, W.var? Tryz.prog "strconv.ErrSyntax" = some #[.iface tp p] := by
  obtain ⟨a, s, hv, _⟩ := laid_sentinel (g := 1) h (by kernel_rfl) (by kernel_rfl) Tryz.underlying107 row_es Tryz.underlying174 Tryz.underlying176 rfl rfl Tryz.underlying9 (by kernel_rfl) (by kernel_rfl)
  exact ⟨_, _, hv⟩
end Go.PV
