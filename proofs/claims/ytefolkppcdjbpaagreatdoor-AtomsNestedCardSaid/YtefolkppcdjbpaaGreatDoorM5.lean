/- Part of the proof of AtomsNested. -/
import Derived.Test.YtefolkppcdjbpaaGreatDoorM4
import Derived.ChangeArms
import Derived.DataElems
import Derived.DataReads
import Derived.SizedLaws
import Derived.ChangeSlices
import Derived.WideShapes
import Derived.ChangeShapes
import Derived.JoinedOf
import Derived.SevenTiedAt
import Derived.Test.YtefolkppcdjbpaaGreatDoorRows
import Derived.LaidMore
import Derived.Stop.LaidErr
import Derived.Lib.LaidTab
import Derived.MakeChecks
import Derived.LaidLaws
namespace Go.PV
open Go Go.Proofs
set_option maxRecDepth 100000
theorem atmH_B {a : Atm} (h : atmH a = false) : atmB a := by
  unfold atmH trmH at h
  simp at h
  obtain ⟨⟨h1, h2⟩, h3⟩ := h
  exact ⟨by omega, by omega, fun t ht => by have := h3 t ht; exact ⟨by omega, by omega⟩⟩
theorem opsH_B {l : List Stp} (h : opsH l = false) : opsB l := by
  unfold opsH stpH at h
  simp at h
  obtain ⟨h1, h3⟩ := h
  exact ⟨by omega, fun t ht => by have := h3 t ht; exact ⟨by omega, by omega⟩⟩
theorem toksH_B {l : List Tok} (h : toksH l = false) : tokB l := by
  unfold toksH tokH at h
  simp at h
  obtain ⟨h1, h3⟩ := h
  exact ⟨by omega, fun t ht => by have := h3 t ht; omega⟩
theorem tokB_len {l : List Tok} (h : tokB l) : l.length ≤ 1000000 := h.1
theorem atomsBack_good (a b : Atm) (x y : List Stp) (more : Int) {p1 p2 : Prop} (_ : p1) (_ : p2) (_ : x.length ≤ maxLen) {p3 : Stp → Prop} (_ : ∀ v ∈ x, p3 v) (_ : y.length ≤ maxLen) {p4 : Stp → Prop} (_ : ∀ v ∈ y, p4 v) (_ : (Lit.int .i64 more).wf = true) :
    Good Tryz.prog 4 [.agg a.c, .agg b.c, .sl 5 (stpV x), .sl 5 (stpV y), .int .i64 more] [] [.bool true] [] := by
  refine good_of hP Tryz.func4 (by kernel_rfl) (lv := [0, 1, 2, 3, 4, 5, 6, 10, 11, 12, 13, 14, 15, 16, 17, 18, 20, 21, 23, 24, 25, 26, 27, 28, 29, 31, 32, 34, 48, 67, 137, 149]) (js := [67]) ⟨rfl, rfl, rfl, rfl, rfl, rfl, _, rfl, ?_⟩
  obtain ⟨k, hk, hw⟩ := modk (m := 6) (by omega) (by omega) more
  have h6 : k < 6 := by omega
  obtain ⟨q, _, hT, hq, hs, hh⟩ := bK_facts k h6
  have hTl : k < bT.length := h6
  have hTe : bT[k] = weaveK q := by rw [List.getElem?_eq_getElem hTl] at hT; exact Option.some.inj hT
  have hbl : (weaveK q).length ≤ 5 := by
    rw [← hTe]
    have : ∀ k (h : k < bT.length), bT[k].length ≤ 5 := by decide
    exact this k hTl
  generalize hbe : weaveK q = beh at *
  conv => whnf
  refine call0 (heavyA_good a) ?_
  cases ha : atmH a with
  | true =>
    conv => whnf
    exact fin0 rfl trivial
  | false =>
  have ha := atmH_B ha
  conv => whnf
  refine call0 (heavyA_good b) ?_
  cases hb : atmH b with
  | true =>
    conv => whnf
    exact fin0 rfl trivial
  | false =>
  have hb := atmH_B hb
  conv => whnf
  refine call0 (heavyX_good x) ?_
  cases hx : opsH x with
  | true =>
    conv => whnf
    exact fin0 rfl trivial
  | false =>
  have hx := opsH_B hx
  conv => whnf
  refine call0 (heavyX_good y) ?_
  cases hy : opsH y with
  | true =>
    conv => whnf
    exact fin0 rfl trivial
  | false =>
  have hy := opsH_B hy
  conv => whnf
  refine ⟨⟨⟩, by decide, ?_⟩
  conv => whnf
  rw [hw]
  refine ⟨⟨⟩, idxB (f := fun t => [V.str t]) hTl rfl, ?_⟩
  conv => whnf
  refine ⟨[.str beh], by rw [← hTe]; exact (idxM (f := fun t => [V.str t]) hTl rfl).2, ?_⟩
  conv => whnf
  refine call0 (atomText_good a ha) ?_
  conv => whnf
  refine call0 (atomText_good b hb) ?_
  conv => whnf
  refine seq_of hP [0, 1, 2, 3, 4, 5, 6, 10, 11, 12, 13, 14, 15, 16, 17, 18, 20, 21, 23, 24, 25, 26, 27, 28, 29, 31, 32, 34, 48, 67, 137, 149] [67] [2, 3, 11] [] [] (fun st => st = ⟨[(2, .sl 5 (stpV x)), (3, .sl 5 (stpV y)), (11, .str beh)], []⟩) ?_ ?_
  · cases hka : atomOk a with
    | false =>
      conv => whnf
    | true =>
      rw [if_pos rfl, if_pos rfl]
      have hal := atomT_len hka
      obtain ⟨e1, e2, e3⟩ := parse_atom hka
      obtain ⟨e4, _⟩ := lex_atom hka hq (by rw [hbe]; exact hs)
      have e5 := read_atom hka hq (by rw [hbe]; exact hs) hh
      rw [hbe] at e4 e5
      have hb1 := tokB_R (atomT a ++ beh) (by rw [List.length_append]; omega)
      conv => whnf
      refine call0 (parseA_good (atomT a) (by omega)) ?_
      rw [e1]
      conv => whnf
      refine ⟨⟨⟩, by dsimp only; omega, ?_⟩
      conv => whnf
      refine call0 (tokens_good (atomT a ++ beh) (by rw [List.length_append]; omega)) ?_
      rw [e4]
      generalize toksR (atomT a ++ beh) = l1 at *
      conv => whnf
      refine call0 (tokens_good (atomT a) (by omega)) ?_
      rw [e2]
      generalize toksR (atomT a) = l2 at *
      conv => whnf
      refine call0 (readA_good l1 0 hb1 (Nat.zero_le _)) ?_
      rw [e5]
      conv => whnf
      refine branch_of (fun h => ?_) (fun h => ?_)
      · rw [Bool.not_eq_true'] at h
        have h := of_decide_eq_false h
        rw [List.length_map] at h
        dsimp only at h
        omega
      conv => whnf
      refine call0 (keepAtom_good a a ha.2.1) ?_
      rw [decide_eq_true rfl]
      conv => whnf
      refine call0 (keepAtom_good a a ha.2.1) ?_
      rw [decide_eq_true rfl]
      cases hkb : atomOk b with
      | false =>
        conv => whnf
      | true =>
        conv => whnf
        refine call0 (keepAtom_good a b ha.2.1) ?_
        have e6 : (!(decide (atomT a = atomT b) == decide (a = b))) = false := by rw [atomT_inj hka hkb]; simp
        conv => whnf
        rw [if_pos rfl]
        rw [e6]
        conv => whnf
  rintro st rfl
  conv => whnf
  refine call0 (exprText_good x hx) ?_
  cases hkx : exprOk x with
  | false =>
    conv => whnf
    refine call0 (exprText_good y hy) ?_
    conv => whnf
    refine call0 (wakes10_good) ?_
    conv => whnf
    exact fin0 rfl trivial
  | true =>
    rw [if_pos rfl, if_pos rfl]
    have hxl := exprT_len hkx
    obtain ⟨e1, e2, e3⟩ := read_expr hkx hq (by rw [hbe]; exact hs)
    rw [hbe] at e1 e2 e3
    have hb1 := tokB_R (exprT x ++ beh) (by rw [List.length_append]; omega)
    conv => whnf
    refine call0 (exprText_good y hy) ?_
    conv => whnf
    refine ⟨⟨⟩, by dsimp only; omega, ?_⟩
    conv => whnf
    refine call0 (tokens_good (exprT x ++ beh) (by rw [List.length_append]; omega)) ?_
    rw [e1]
    generalize toksR (exprT x ++ beh) = l1 at *
    conv => whnf
    refine call0 (readX_good l1 0 hb1 (Nat.zero_le _)) ?_
    rw [e2, e3]
    conv => whnf
    refine call0 (keepOps_good x x hx.1) ?_
    rw [decide_eq_true rfl]
    cases hky : exprOk y with
    | false =>
      conv => whnf
      refine call0 (wakes10_good) ?_
      conv => whnf
      exact fin0 rfl trivial
    | true =>
      conv => whnf
      refine call0 (keepOps_good x y hx.1) ?_
      have e6 : (decide (exprT x = exprT y) == decide (x = y)) = true := by rw [exprT_inj hkx hky]; simp
      conv => whnf
      rw [if_pos rfl]
      rw [e6]
      conv => whnf
      refine call0 (wakes10_good) ?_
      conv => whnf
      exact fin0 rfl trivial
theorem atomsReads_good (l : List Tok) (i : Int) (_ : l.length ≤ maxLen) {p : Tok → Prop} (_ : ∀ v ∈ l, p v) (_ : (Lit.int .i64 i).wf = true) :
    Good Tryz.prog 5 [.sl 4 (toksV l), .int .i64 i] [] [.bool true] [] := by
  refine good_of hP Tryz.func5 (by kernel_rfl) (lv := [0, 1, 4, 5, 6, 7, 8, 9, 10, 11, 12, 13, 14, 15, 16, 17, 19, 20, 22, 24, 33, 66, 75, 92]) (js := [33]) ⟨rfl, rfl, rfl, rfl, rfl, rfl, _, rfl, ?_⟩
  conv => whnf
  refine call0 (heavyT_good l) ?_
  cases hb : toksH l with
  | true =>
    conv => whnf
    exact fin0 rfl trivial
  | false =>
  have hb := toksH_B hb
  by_cases hi : 0 ≤ i ∧ i ≤ l.length
  · obtain ⟨n, rfl⟩ : ∃ n : Nat, i = n := ⟨i.toNat, by omega⟩
    have hn : n ≤ l.length := by omega
    conv => whnf
    refine seq_of hP [0, 1, 4, 5, 6, 7, 8, 9, 10, 11, 12, 13, 14, 15, 16, 17, 19, 20, 22, 24, 33, 66, 75, 92] [33] [0, 1] [] [] (fun st => st = ⟨[(0, .sl 4 (toksV l)), (1, .int .i64 n)], []⟩) ?_ ?_
    · conv => whnf
      refine call0 (readA_good l n hb hn) ?_
      obtain ⟨_, _, h0⟩ := readA_place hn
      rcases h0 with h0 | h0
      · obtain ⟨a1, a2, a3⟩ := readA_ok h0
        rw [h0]
        generalize readA l n = z at *
        have hal := atomT_len a1
        obtain ⟨e1, e2, e3⟩ := parse_atom a1
        have hab : atmB z.1 := by
          obtain ⟨q1, q2, q3⟩ := atomOk_len a1
          exact ⟨by omega, by omega, fun t ht => by have := q3 t ht; exact ⟨by omega, by omega⟩⟩
        conv => whnf
        refine call0 (atomText_good z.1 hab) ?_
        rw [a1, if_pos rfl]
        conv => whnf
        refine call0 (parseA_good (atomT z.1) (by omega)) ?_
        rw [e1]
        conv => whnf
        refine call0 (keepAtom_good z.1 z.1 hab.2.1) ?_
        rw [decide_eq_true rfl]
        conv => whnf
        refine branch_of (fun h => ?_) (fun h => ?_)
        · have h := of_decide_eq_true h; omega
        conv => whnf
        refine branch_of (fun h => ?_) (fun h => ?_)
        · have h := of_decide_eq_true h
          rw [List.length_map] at h; omega
        conv => whnf
      · rw [h0]
        conv => whnf
    rintro st rfl
    conv => whnf
    refine call0 (readX_good l n hb hn) ?_
    obtain ⟨p1, p2, h0⟩ := readX_place hn
    rcases h0 with h0 | h0
    · obtain ⟨a1, a2, a3⟩ := readX_ok h0
      rw [h0]
      generalize readX l n = z at *
      have hxl := exprT_len a1
      have hr := read_expr a1 (q := []) trivial rfl
      have e : exprT z.1 ++ weaveK [] = exprT z.1 := List.append_nil _
      rw [e] at hr
      obtain ⟨e1, e2, e3⟩ := hr
      have hb1 := tokB_R (exprT z.1) (by omega)
      have hxb : opsB z.1 := by
        obtain ⟨q1, q2⟩ := exprOk_len a1
        exact ⟨by omega, fun o ho => by have := q2 o ho; exact ⟨by omega, by omega⟩⟩
      conv => whnf
      refine call0 (exprText_good z.1 hxb) ?_
      rw [a1, if_pos rfl]
      conv => whnf
      refine call0 (tokens_good (exprT z.1) (by omega)) ?_
      rw [e1]
      generalize toksR (exprT z.1) = l1 at *
      conv => whnf
      refine call0 (readX_good l1 0 hb1 (Nat.zero_le _)) ?_
      rw [e2, e3]
      conv => whnf
      refine call0 (keepOps_good z.1 z.1 hxb.1) ?_
      rw [decide_eq_true rfl]
      conv => whnf
      refine branch_of (fun h => ?_) (fun h => ?_)
      · conv => whnf
        refine branch_of (fun h2 => ?_) (fun h2 => ?_)
        · conv => whnf
          refine call0 (wakes10_good) ?_
          conv => whnf
          exact fin0 rfl trivial
        · have h2 := of_decide_eq_false h2
          rw [List.length_map] at h2; omega
      · have h := of_decide_eq_false h; omega
    · have hz : (readX l n).1 = [] := by
        unfold readX at h0 ⊢
        dsimp only at h0 ⊢
        rw [if_neg (by omega)]
      rw [h0, hz]
      generalize readX l n = z at *
      conv => whnf
      refine branch_of (fun h => ?_) (fun h => ?_)
      · conv => whnf
        refine branch_of (fun h2 => ?_) (fun h2 => ?_)
        · conv => whnf
          refine call0 (wakes10_good) ?_
          conv => whnf
          exact fin0 rfl trivial
        · have h2 := of_decide_eq_false h2
          rw [List.length_map] at h2; omega
      · have h := of_decide_eq_false h; omega
  · conv => whnf
    refine seq_of hP [0, 1, 4, 5, 6, 7, 8, 9, 10, 11, 12, 13, 14, 15, 16, 17, 19, 20, 22, 24, 33, 66, 75, 92] [33] [0, 1] [] [] (fun st => st = ⟨[(0, .sl 4 (toksV l)), (1, .int .i64 i)], []⟩) ?_ ?_
    · conv => whnf
      refine call0 (readA_bad l i hb.1 hi) ?_
      conv => whnf
    rintro st rfl
    conv => whnf
    refine call0 (readX_bad l i hb.1 hi) ?_
    conv => whnf
    refine branch_of (fun h => ?_) (fun h => ?_)
    · conv => whnf
      refine call0 (wakes10_good) ?_
      conv => whnf
      exact fin0 rfl trivial
    · have h := of_decide_eq_false h
      conv => whnf
      refine branch_of (fun h2 => ?_) (fun h2 => ?_)
      · conv => whnf
        refine call0 (wakes10_good) ?_
        conv => whnf
        exact fin0 rfl trivial
      · have h2 := of_decide_eq_false h2
        rw [List.length_map] at h2; omega
end Go.PV
namespace Go.PV
open Go
/-! law 10: words, numbers with noughts ahead; parts of an expression -/
namespace Rd
theorem term_any {r : Rd} {x : KT} {t : Trm} {m : List KT} (ho : r.isOpen = true) (h : r.rest = x :: m) (hx : valueS x = some t) : r.term = (t, r.step) := by
  unfold term; rw [if_pos ho, (rest_cons h).1, Option.bind_some, hx]
theorem args_any : ∀ (l : List (KT × Trm)) (f : Nat) (r : Rd) (m : List KT), r.isOpen = true → (∀ p ∈ l, valueS p.1 = some p.2) → r.rest = l.flatMap (fun p => [(5, [44]), p.1]) ++ (5, [41]) :: m → l.length ≤ f →
    (args f r).1 = l.map (·.2) ∧ (args f r).2.want 5 [41] = r.adv (2 * l.length + 1)
  | [], f, r, m, ho, _, hr, _ => by
    have hs : r.see 5 [44] = false := see_no (x := (5, [44])) (by rw [hr]; simp)
    have e : args f r = ([], r) := by cases f <;> simp [args, hs]
    rw [e]
    exact ⟨rfl, want_rest ho (x := (5, [41])) (m := m) (by rw [hr]; rfl)⟩
  | (x, t) :: l, f, r, m, ho, hk, hr, hf => by
    obtain ⟨f, rfl⟩ : ∃ f', f = f' + 1 := ⟨f - 1, by simp at hf; omega⟩
    have hr : r.rest = (5, [44]) :: x :: (l.flatMap (fun p => [(5, [44]), p.1]) ++ (5, [41]) :: m) := hr
    have h1 := rest_cons hr
    have h2 := rest_cons h1.2
    have ht := term_any (r := r.step) ho h1.2 (hk (x, t) (by simp))
    obtain ⟨i1, i2⟩ := args_any l f r.step.step m ho (fun p hp => hk p (by simp [hp])) h2.2 (by simp at hf; omega)
    rw [args, if_pos (see_rest ho hr), ht]
    dsimp only
    rw [i1, i2]
    refine ⟨rfl, ?_⟩
    simp only [adv, step, List.length_cons]
    congr 1; omega
/-- an atom of any terms' signs -/
theorem atom_any {r : Rd} {n : Bs} {x : KT} {t : Trm} {l : List (KT × Trm)} {m : List KT} (ho : r.isOpen = true) (hn : nameS n = true) (hx : valueS x = some t) (hk : ∀ p ∈ l, valueS p.1 = some p.2)
    (hr : r.rest = (1, n) :: (5, [40]) :: x :: (l.flatMap (fun p => [(5, [44]), p.1]) ++ (5, [41]) :: m)) (h5 : l.length + 1 ≤ 5) : r.atom = (⟨n, t :: l.map (·.2)⟩, r.adv (2 * l.length + 4)) := by
  have hc := rest_cons hr
  have hc2 := rest_cons hc.2
  have hc3 := rest_cons hc2.2
  have hnm := name_rest ho hr hn
  have hs : r.step.see 5 [40] = true := see_rest (r := r.step) (x := (5, [40])) ho hc.2
  have ht := term_any (r := r.step.step) ho hc2.2 hx
  have hll : l.length ≤ r.l.length := by
    have e := congrArg List.length hr
    have : ∀ l : List (KT × Trm), l.length ≤ (l.flatMap (fun p => [((5 : Int), ([44] : Bs)), p.1])).length := fun l => by
      induction l with
      | nil => simp
      | cons u l ih => rw [List.flatMap_cons, List.length_append]; simp only [List.length_cons, List.length_nil]; omega
    have := this l
    simp only [rest, List.length_map, List.length_drop, List.length_cons, List.length_append] at e
    omega
  obtain ⟨i1, i2⟩ := args_any l r.l.length r.step.step.step m ho hk hc3.2 hll
  have hy := atom_yes (r := r) (by rw [hnm]; exact hs)
  rw [hnm] at hy
  dsimp only at hy
  rw [ht] at hy
  dsimp only at hy
  have hl : r.step.l = r.l := rfl
  rw [hl, i1, i2, List.length_map, if_neg (by omega), List.take_of_length_le (by simp; omega)] at hy
  rw [hy]
  simp only [adv, step]
  congr 2; omega
end Rd
def dig3 (n : Nat) : Bs := [UInt8.ofNat (48 + n / 100), UInt8.ofNat (48 + n / 10 % 10), UInt8.ofNat (48 + n % 10)]
theorem dig_val {n : Nat} (h : n < 1000) : digN (dig3 n) = n ∧ (dig3 n).all digitB = true := by
  have h1 := dig_nat (d := n / 100) (by omega)
  have h2 := dig_nat (d := n / 10 % 10) (by omega)
  have h3 := dig_nat (d := n % 10) (by omega)
  constructor
  · simp only [digN, dig3, List.foldl_cons, List.foldl_nil, h1, h2, h3]; omega
  · simp only [dig3, List.all_cons, List.all_nil, digitB, inB, h1, h2, h3]
    simp; omega
theorem num_dig {n : Nat} (h : n < 1000) : refNumS (dig3 n) = some (n : Int) ∧ refNumS (48 :: dig3 n) = some (n : Int) ∧ refNumS (45 :: dig3 n) = some (-(n : Int)) := by
  obtain ⟨h1, h2⟩ := dig_val h
  have hd : dig3 n ≠ [] := by simp [dig3]
  have hs : signed (dig3 n) = false := by
    have h1 := dig_nat (d := n / 100) (by omega)
    simp only [signed, dig3, headB, h1]; simp; omega
  refine ⟨?_, ?_, ?_⟩
  · have hu : unS (dig3 n) = dig3 n := by unfold unS; rw [hs]; rfl
    unfold refNumS
    rw [hu, h1, if_neg (by simp [hd, h2]; omega), hs, if_neg (by simp)]
  · have hu : unS (48 :: dig3 n) = 48 :: dig3 n := rfl
    unfold refNumS
    rw [hu, digN_zero, h1, if_neg, if_neg (show ¬ signed (48 :: dig3 n) = true from by simp [signed, headB])]
    rintro (h | h | h)
    · cases h
    · apply h; rw [List.all_cons, h2]; rfl
    · omega
  · have hu : unS (45 :: dig3 n) = dig3 n := rfl
    unfold refNumS
    rw [hu, h1, if_neg (by simp [hd, h2]; omega), if_pos (by rfl)]
theorem val_dig {n : Nat} (h : n < 1000) : valueS (3, dig3 n) = some ⟨[], ⟨1, n, []⟩⟩ ∧ valueS (3, 48 :: dig3 n) = some ⟨[], ⟨1, n, []⟩⟩ ∧ valueS (3, 45 :: dig3 n) = some ⟨[], ⟨1, -n, []⟩⟩ := by
  obtain ⟨h1, h2, h3⟩ := num_dig h
  have e : ∀ s, valueS (3, s) = (numberS s).map fun v => ⟨[], v⟩ := fun s => rfl
  rw [e, e, e, number_ref, number_ref, number_ref, h1, h2, h3]
  exact ⟨rfl, rfl, rfl⟩
def wordK (w s : Bs) : List (Bs × KT) := [([], (1, [112])), ([], (5, [40])), ([], (1, w)), ([], (5, [44])), ([32], (3, 48 :: s)), ([], (5, [44])), ([32], (3, 45 :: s)), ([], (5, [41]))]
theorem sym_words : ∀ w ∈ wordsL, refWordS false w = true ∧ w.length ≤ 10 := by decide +kernel
theorem parse_words {w : Bs} (hw : w ∈ wordsL) {n : Nat} (h : n < 1000) : parseA ([112, 40] ++ w ++ [44, 32, 48] ++ dig3 n ++ [44, 32, 45] ++ dig3 n ++ [41]) = (⟨[112], [⟨[], ⟨2, 0, w⟩⟩, ⟨[], ⟨1, n, []⟩⟩, ⟨[], ⟨1, -n, []⟩⟩]⟩, 0) := by
  obtain ⟨d1, d2, d3⟩ := num_dig h
  obtain ⟨v1, v2, v3⟩ := val_dig h
  have hsw := (sym_words w hw).1
  have tw : Tk (1, w) := tk_word (large := false) hsw
  have vw : valueS (1, w) = some ⟨[], ⟨2, 0, w⟩⟩ := by
    rw [← symbol_word] at hsw
    unfold valueS; rw [if_neg (by dsimp only; omega), if_neg (by dsimp only; omega), parse_sym hsw]; simp
  have hwv : WovK [] (wordK w (dig3 n)) := by
    refine ⟨rfl, by unfold Tk; decide +kernel, okEnd_stop rfl, rfl, rfl, ?_, rfl, tw, okEnd_stop rfl, rfl, rfl, rfl, rfl, tk_num (by rw [d2]; rfl), okEnd_stop rfl, rfl, rfl, rfl, rfl, tk_num (by rw [d3]; rfl), okEnd_stop rfl, rfl, rfl, rfl, trivial⟩
    obtain ⟨c, u, e, hc⟩ := tk_head tw (show (1 : Int) ≠ 5 by decide)
    have e : w = c :: u := e
    rw [e]
    exact okEnd_sign (by decide) hc
  have e : weaveK (wordK w (dig3 n)) ++ [] = [112, 40] ++ w ++ [44, 32, 48] ++ dig3 n ++ [44, 32, 45] ++ dig3 n ++ [41] := by simp [wordK, weaveK]
  obtain ⟨r1, r2, _⟩ := wovK_R hwv rfl
  rw [e] at r1 r2
  generalize [112, 40] ++ w ++ [44, 32, 48] ++ dig3 n ++ [44, 32, 45] ++ dig3 n ++ [41] = T at *
  have hkt : (toksR T).map kt = (wordK w (dig3 n)).map (·.2) := by rw [r1, posL_kt]
  have hlen : (toksR T).length = 8 := by have := congrArg List.length hkt; simpa [wordK] using this
  have ha := Rd.atom_any (r := rd0 (toksR T) 0) (n := [112]) (x := (1, w)) (l := [((3, 48 :: dig3 n), ⟨[], ⟨1, n, []⟩⟩), ((3, 45 :: dig3 n), ⟨[], ⟨1, -n, []⟩⟩)]) (m := []) rfl (by decide +kernel) vw (fun p hp => by
    simp only [List.mem_cons, List.mem_nil_iff, or_false] at hp
    rcases hp with rfl | rfl
    · exact v2
    · exact v3) (by unfold Rd.rest; dsimp only; rw [List.drop_zero, hkt]; rfl) (by simp)
  unfold parseA
  rw [if_pos r2]
  unfold readA
  rw [ha]
  dsimp only
  rw [if_pos]
  · rfl
  · exact ⟨rfl, by rw [hlen]; rfl⟩
theorem word_bad : wordsL.all (fun w => decide ((parseA (w ++ [40, 49, 41])).2 = 7)) = true := by decide +kernel
def oneK (_ s : Bs) : List (Bs × KT) := [([], (5, [40])), ([], (3, [49])), ([32], (3, 45 :: s)), ([], (5, [41]))]
theorem read_minus {n : Nat} (h : n < 1000) : errR ([40, 49, 32, 45] ++ dig3 n ++ [41]) = 0 ∧ (readX (toksR ([40, 49, 32, 45] ++ dig3 n ++ [41])) 0).2 = (2, 7) := by
  obtain ⟨d1, d2, d3⟩ := num_dig h
  have hwv : WovK [] (oneK [] (dig3 n)) := ⟨rfl, rfl, rfl, rfl, by unfold Tk; decide +kernel, okEnd_stop rfl, rfl, tk_num (by rw [d3]; rfl), okEnd_stop rfl, rfl, rfl, rfl, trivial⟩
  have e : weaveK (oneK [] (dig3 n)) ++ [] = [40, 49, 32, 45] ++ dig3 n ++ [41] := by simp [oneK, weaveK]
  obtain ⟨r1, r2, _⟩ := wovK_R hwv rfl
  rw [e] at r1 r2
  generalize [40, 49, 32, 45] ++ dig3 n ++ [41] = T at *
  have hkt : (toksR T).map kt = (oneK [] (dig3 n)).map (·.2) := by rw [r1, posL_kt]
  have hlen : (toksR T).length = 4 := by have := congrArg List.length hkt; simpa [oneK] using this
  refine ⟨r2, ?_⟩
  have hr : (rd0 (toksR T) 0).rest = (5, [40]) :: (3, [49]) :: (3, 45 :: dig3 n) :: [(5, [41])] := by unfold Rd.rest; dsimp only; rw [List.drop_zero, hkt]; rfl
  have c1 := Rd.rest_cons hr
  have c2 := Rd.rest_cons c1.2
  have s1 := Rd.see_rest (r := rd0 (toksR T) 0) rfl hr
  have s2 : (rd0 (toksR T) 0).step.see 5 [40] = false := Rd.see_no (x := (5, [40])) (by rw [c1.2]; simp)
  have t1 := Rd.term_any (r := (rd0 (toksR T) 0).step) (t := ⟨[], ⟨1, 1, []⟩⟩) rfl c1.2 (by decide +kernel)
  have no : ∀ x : Bs, (rd0 (toksR T) 0).step.step.see 5 x = false := fun x => Rd.see_no (x := (5, x)) (by rw [c2.2]; simp)
  have hrk : (rd0 (toksR T) 0).step.step.reckons = (0, (rd0 (toksR T) 0).step.step.fail) := by
    unfold Rd.reckons; rw [no, no, no]; rfl
  have hp1 : (rd0 (toksR T) 0).step.part 14 = ([⟨2, [], ⟨1, 1, []⟩⟩], (rd0 (toksR T) 0).step.step) := by
    unfold Rd.part; rw [s2, t1]; rfl
  have hp : (rd0 (toksR T) 0).part 15 = ([], (rd0 (toksR T) 0).step.step.fail) := by
    rw [Rd.part, if_pos s1]; dsimp only; rw [hp1]; dsimp only; rw [hrk]; rfl
  have hx : (rd0 (toksR T) 0).expr = ([], (rd0 (toksR T) 0).step.step.fail) := by
    unfold Rd.expr; rw [if_pos (show (rd0 (toksR T) 0).isOpen = true from rfl), hp]; rfl
  unfold readX
  rw [hx]
  show (min 2 (toksR T).length, (7 : Int)) = (2, 7)
  rw [hlen]; rfl
def twoK (s : Bs) : List (Bs × KT) := [([], (5, [40])), ([], (3, [49])), ([32], (5, [45])), ([32], (3, s)), ([], (5, [41]))]
theorem read_minus2 {n : Nat} (h : n < 1000) : errR ([40, 49, 32, 45, 32] ++ dig3 n ++ [41]) = 0 ∧ (readX (toksR ([40, 49, 32, 45, 32] ++ dig3 n ++ [41])) 0).1.length = 3 ∧ (readX (toksR ([40, 49, 32, 45, 32] ++ dig3 n ++ [41])) 0).2.2 = 0 := by
  obtain ⟨d1, d2, d3⟩ := num_dig h
  obtain ⟨v1, v2, v3⟩ := val_dig h
  have hwv : WovK [] (twoK (dig3 n)) := ⟨rfl, rfl, rfl, rfl, by unfold Tk; decide +kernel, okEnd_stop rfl, rfl, by unfold Tk; decide +kernel, okEnd_stop rfl, rfl, tk_num (by rw [d1]; rfl), okEnd_stop rfl, rfl, rfl, rfl, trivial⟩
  have e : weaveK (twoK (dig3 n)) ++ [] = [40, 49, 32, 45, 32] ++ dig3 n ++ [41] := by simp [twoK, weaveK]
  obtain ⟨r1, r2, _⟩ := wovK_R hwv rfl
  rw [e] at r1 r2
  generalize [40, 49, 32, 45, 32] ++ dig3 n ++ [41] = T at *
  have hkt : (toksR T).map kt = (twoK (dig3 n)).map (·.2) := by rw [r1, posL_kt]
  refine ⟨r2, ?_⟩
  have hr : (rd0 (toksR T) 0).rest = (5, [40]) :: (3, [49]) :: (5, opT 4) :: (3, dig3 n) :: [(5, [41])] := by unfold Rd.rest; dsimp only; rw [List.drop_zero, hkt]; rfl
  have c1 := Rd.rest_cons hr
  have c2 := Rd.rest_cons c1.2
  have c3 := Rd.rest_cons c2.2
  have c4 := Rd.rest_cons c3.2
  generalize hq : rd0 (toksR T) 0 = q at *
  have ho : q.isOpen = true := by rw [← hq]; rfl
  have s1 := Rd.see_rest ho hr
  have s2 : q.step.see 5 [40] = false := Rd.see_no (x := (5, [40])) (by rw [c1.2]; simp)
  have t1 := Rd.term_any (r := q.step) (t := ⟨[], ⟨1, 1, []⟩⟩) ho c1.2 (by decide +kernel)
  have hrk := Rd.reckons_rest (r := q.step.step) ho (.inr (.inl rfl)) c2.2
  have s3 : q.step.step.step.see 5 [40] = false := Rd.see_no (x := (5, [40])) (by rw [c3.2]; simp)
  have t2 := Rd.term_any (r := q.step.step.step) ho c3.2 v1
  have hp1 : q.step.part 14 = ([⟨2, [], ⟨1, 1, []⟩⟩], q.step.step) := by
    unfold Rd.part; rw [s2, t1]; rfl
  have hp2 : q.step.step.step.part 14 = ([⟨2, [], ⟨1, n, []⟩⟩], q.step.step.step.step) := by
    unfold Rd.part; rw [s3, t2]; rfl
  have hwn := Rd.want_rest (r := q.step.step.step.step) ho (x := (5, [41])) c4.2
  have ho2 : q.step.step.step.isOpen = true := ho
  have hp : q.part 15 = ([⟨2, [], ⟨1, 1, []⟩⟩, ⟨2, [], ⟨1, n, []⟩⟩, ⟨4, [], zeroV⟩], q.step.step.step.step.step) := by
    rw [Rd.part, if_pos s1]; dsimp only; rw [hp1]; dsimp only; rw [hrk]; dsimp only; rw [if_pos ho2, hp2]; dsimp only
    exact Prod.ext rfl hwn
  have hx : q.expr = ([⟨2, [], ⟨1, 1, []⟩⟩, ⟨2, [], ⟨1, n, []⟩⟩, ⟨4, [], zeroV⟩], q.step.step.step.step.step) := by
    unfold Rd.expr; rw [if_pos ho, hp]; rfl
  have hE : q.step.step.step.step.step.endE = 0 := by rw [← hq]; rfl
  unfold readX
  rw [hq, hx]
  dsimp only
  rw [hE]
  exact ⟨rfl, rfl⟩
/-! parts -/
def pushB (o : Stp) : Bool := decide (o.k = 1 ∨ o.k = 2)
/-- backwards: how many steps until the need is met -/
def scan : List Stp → Int → Option Nat
  | [], _ => none
  | o :: r, need => let m := if pushB o then need - 1 else need + 1; if m = 0 then some 1 else (scan r m).map (· + 1)
namespace Tree
theorem scan_ops : ∀ {T : Tree}, T.ok = true → ∀ (r : List Stp) (need : Int), 1 ≤ need → scan (T.ops.reverse ++ r) need = if need = 1 then some T.size else (scan r (need - 1)).map (· + T.size)
  | leaf t, h, r, need, hn => by
    have hp : pushB ⟨if t.v = [] then 2 else 1, t.v, t.x⟩ = true := by unfold pushB; dsimp only; split <;> decide
    simp only [ops, List.reverse_cons, List.reverse_nil, List.nil_append, List.cons_append, scan, hp, if_true, size]
    by_cases h1 : need = 1
    · rw [if_pos h1, if_pos (by omega)]
    · rw [if_neg h1, if_neg (by omega)]
  | node k a b, h, r, need, hn => by
    simp only [ok, Bool.and_eq_true, decide_eq_true_eq] at h
    have hp : pushB ⟨k, [], zeroV⟩ = false := by unfold pushB; rw [decide_eq_false_iff_not]; dsimp only; omega
    have e : (node k a b).ops.reverse ++ r = ⟨k, [], zeroV⟩ :: (b.ops.reverse ++ (a.ops.reverse ++ r)) := by simp [ops]
    rw [e]
    simp only [scan, hp]
    have hz : ¬ need + 1 = 0 := by omega
    have hm : (if false = true then need - 1 else need + 1) = need + 1 := if_neg (by simp)
    rw [hm, if_neg hz, scan_ops h.2 _ _ (by omega), if_neg (by omega), Int.add_sub_cancel, scan_ops h.1.2 _ _ hn]
    simp only [size]
    by_cases h1 : need = 1
    · rw [if_pos h1, if_pos h1]; simp only [Option.map_some]
    · rw [if_neg h1, if_neg h1]
      cases scan r (need - 1) with
      | none => rfl
      | some n => simp only [Option.map_some]; congr 1; omega
end Tree
end Go.PV
namespace Go.PV
open Go Go.Proofs
set_option maxRecDepth 100000
theorem cut1 : ∀ m : Nat, m < 10 → List.drop ((m : Nat) : Int).toNat (List.take ((m + 1 : Nat) : Int).toNat (ByteArray.mk #[48, 49, 50, 51, 52, 53, 54, 55, 56, 57]).data.toList) = [UInt8.ofNat (48 + m)] := by decide
theorem atomsWords_good (how more : Int) {p1 p2 : Prop} (_ : p1) (_ : p2) :
    Good Tryz.prog 7 [.int .i64 how, .int .i64 more] [] [.bool true] [] := by
  refine good_of hP Tryz.func7 (by kernel_rfl) (lv := [0, 1, 4, 5, 6, 7, 8, 9, 10, 12, 13, 15, 17, 18, 19, 21, 22, 24, 25]) (js := []) ⟨rfl, rfl, rfl, rfl, rfl, rfl, _, rfl, ?_⟩
  obtain ⟨n, hn, hnw⟩ := modk (m := 1000) (by omega) (by omega) more
  obtain ⟨k, hk, hkw⟩ := modk (m := 11) (by omega) (by omega) how
  conv => whnf
  refine ⟨⟨⟩, by decide, ?_⟩
  conv => whnf
  refine ⟨⟨⟩, by decide, ?_⟩
  conv => whnf
  rw [hnw, hkw]
  have hkl : k < wordsL.length := by have : wordsL.length = 11 := rfl; omega
  obtain ⟨w, hwl, hwm, hwn⟩ : ∃ w, wordsL[k]? = some w ∧ w ∈ wordsL ∧ w.length ≤ 10 := ⟨wordsL[k], List.getElem?_eq_getElem hkl, List.getElem_mem hkl, (sym_words _ (List.getElem_mem hkl)).2⟩
  have hwe : wordsL[k] = w := by rw [List.getElem?_eq_getElem hkl] at hwl; exact Option.some.inj hwl
  refine ⟨⟨⟩, idxB (f := fun t => [V.str t]) hkl rfl, ?_⟩
  conv => whnf
  refine ⟨[.str w], by rw [← hwe]; exact (idxM (f := fun t => [V.str t]) hkl rfl).2, ?_⟩
  conv => whnf
  have q1 : IntKind.i64.wrap ((n : Int).tdiv 100) = ((n / 100 : Nat) : Int) := by
    rw [Int.tdiv_eq_ediv_of_nonneg (by omega), wr (by omega) (by omega)]; omega
  have q2 : IntKind.i64.wrap ((n : Int).tdiv 10) = ((n / 10 : Nat) : Int) := by
    rw [Int.tdiv_eq_ediv_of_nonneg (by omega), wr (by omega) (by omega)]; omega
  have q3 : ((n / 10 : Nat) : Int).tmod 10 = ((n / 10 % 10 : Nat) : Int) := by
    rw [Int.tmod_eq_emod_of_nonneg (by omega)]; omega
  have q4 : (n : Int).tmod 10 = ((n % 10 : Nat) : Int) := by
    rw [Int.tmod_eq_emod_of_nonneg (by omega)]; omega
  have q5 : ∀ m : Nat, m < 10 → IntKind.i64.wrap ((m : Int) + 1) = ((m + 1 : Nat) : Int) := fun m h => by
    rw [wr (by omega) (by omega)]; omega
  refine ⟨⟨⟩, by decide, ?_⟩
  conv => whnf
  rw [q1]
  refine ⟨⟨⟩, by decide, ?_⟩
  conv => whnf
  rw [q5 (n / 100) (by omega)]
  refine ⟨⟨⟩, ⟨by omega, by omega, by show _ ≤ (10 : Int); omega⟩, ?_⟩
  conv => whnf
  refine ⟨⟨⟩, by decide, ?_⟩
  conv => whnf
  rw [q2]
  refine ⟨⟨⟩, by decide, ?_⟩
  conv => whnf
  rw [q3]
  refine ⟨⟨⟩, by decide, ?_⟩
  conv => whnf
  rw [q2]
  refine ⟨⟨⟩, by decide, ?_⟩
  conv => whnf
  rw [q3, q5 (n / 10 % 10) (by omega)]
  refine ⟨⟨⟩, ⟨by omega, by omega, by show _ ≤ (10 : Int); omega⟩, ?_⟩
  conv => whnf
  rw [cut1 _ (by omega), cut1 _ (by omega)]
  refine ⟨⟨⟩, by show (1 + 1 : Nat) ≤ 9223372036854775807; omega, ?_⟩
  conv => whnf
  refine ⟨⟨⟩, by decide, ?_⟩
  conv => whnf
  rw [q4]
  refine ⟨⟨⟩, by decide, ?_⟩
  conv => whnf
  rw [q5 (n % 10) (by omega)]
  refine ⟨⟨⟩, ⟨by omega, by omega, by show _ ≤ (10 : Int); omega⟩, ?_⟩
  conv => whnf
  rw [cut1 _ (by omega)]
  refine ⟨⟨⟩, by show (2 + 1 : Nat) ≤ 9223372036854775807; omega, ?_⟩
  conv => whnf
  have hd : (([UInt8.ofNat (48 + n / 100)] : Bs) ++ [UInt8.ofNat (48 + n / 10 % 10)] ++ [UInt8.ofNat (48 + n % 10)]) = dig3 n := rfl
  have hn : n < 1000 := by omega
  have e1 := parse_words hwm hn
  have e2 : (parseA (w ++ [40, 49, 41])).2 = 7 := of_decide_eq_true (List.all_eq_true.1 word_bad w hwm)
  obtain ⟨e3, e4⟩ := read_minus hn
  obtain ⟨e5, e6, e7⟩ := read_minus2 hn
  have hsl : (dig3 n).length = 3 := rfl
  generalize dig3 n = s at *
  have hd : V.str (([UInt8.ofNat (48 + n / 100)] : Bs) ++ [UInt8.ofNat (48 + n / 10 % 10)] ++ [UInt8.ofNat (48 + n % 10)]) = V.str s := by rw [hd]
  rw [hd]
  refine ⟨by kernel_rfl, ?_⟩
  conv => whnf
  refine ⟨⟨⟩, by dsimp only; simp only [List.length_append, List.length_cons, List.length_nil]; omega, ?_⟩
  conv => whnf
  refine ⟨⟨⟩, by dsimp only; simp only [List.length_append, List.length_cons, List.length_nil]; omega, ?_⟩
  conv => whnf
  refine ⟨⟨⟩, by dsimp only; simp only [List.length_append, List.length_cons, List.length_nil]; omega, ?_⟩
  conv => whnf
  refine ⟨⟨⟩, by dsimp only; simp only [List.length_append, List.length_cons, List.length_nil]; omega, ?_⟩
  conv => whnf
  refine ⟨⟨⟩, by dsimp only; simp only [List.length_append, List.length_cons, List.length_nil]; omega, ?_⟩
  conv => whnf
  refine ⟨⟨⟩, by dsimp only; simp only [List.length_append, List.length_cons, List.length_nil]; omega, ?_⟩
  conv => whnf
  conv => whnf
  refine call0 (parseA_good ([112, 40] ++ w ++ [44, 32, 48] ++ s ++ [44, 32, 45] ++ s ++ [41]) (by simp only [List.length_append, List.length_cons, List.length_nil]; omega)) ?_
  rw [e1]
  conv => whnf
  refine ⟨⟨⟩, by show w.length + 3 ≤ 9223372036854775807; omega, ?_⟩
  conv => whnf
  refine call0 (parseA_good (w ++ [40, 49, 41]) (by simp only [List.length_append, List.length_cons, List.length_nil]; omega)) ?_
  rw [e2]
  generalize (parseA (w ++ [40, 49, 41])).1 = z1
  conv => whnf
  refine ⟨⟨⟩, by show 4 + s.length ≤ 9223372036854775807; omega, ?_⟩
  conv => whnf
  refine ⟨⟨⟩, by show (([40, 49, 32, 45] : Bs) ++ s).length + 1 ≤ 9223372036854775807; rw [List.length_append, hsl]; decide, ?_⟩
  conv => whnf
  have hb1 := tokB_R ([40, 49, 32, 45] ++ s ++ [41]) (by simp only [List.length_append, List.length_cons, List.length_nil]; omega)
  have hb2 := tokB_R ([40, 49, 32, 45, 32] ++ s ++ [41]) (by simp only [List.length_append, List.length_cons, List.length_nil]; omega)
  refine call0 (tokens_good ([40, 49, 32, 45] ++ s ++ [41]) (by simp only [List.length_append, List.length_cons, List.length_nil]; omega)) ?_
  rw [e3]
  generalize posR ([40, 49, 32, 45] ++ s ++ [41]) = z2
  generalize toksR ([40, 49, 32, 45] ++ s ++ [41]) = l1 at *
  conv => whnf
  refine call0 (readX_good l1 0 hb1 (Nat.zero_le _)) ?_
  rw [e4]
  generalize (readX l1 0).1 = z3
  conv => whnf
  refine ⟨⟨⟩, by show 5 + s.length ≤ 9223372036854775807; omega, ?_⟩
  conv => whnf
  refine ⟨⟨⟩, by show (([40, 49, 32, 45, 32] : Bs) ++ s).length + 1 ≤ 9223372036854775807; rw [List.length_append, hsl]; decide, ?_⟩
  conv => whnf
  refine call0 (tokens_good ([40, 49, 32, 45, 32] ++ s ++ [41]) (by simp only [List.length_append, List.length_cons, List.length_nil]; omega)) ?_
  rw [e5]
  generalize posR ([40, 49, 32, 45, 32] ++ s ++ [41]) = z4
  generalize toksR ([40, 49, 32, 45, 32] ++ s ++ [41]) = l2 at *
  conv => whnf
  refine call0 (readX_good l2 0 hb2 (Nat.zero_le _)) ?_
  rw [e7]
  generalize readX l2 0 = z at *
  obtain ⟨z5, z6, z7⟩ := z
  have e6 : z5.length = 3 := e6
  conv => whnf
  have e8 : IntKind.i64.wrap (0 - (n : Int)) = -(n : Int) := by rw [wr (by omega) (by omega)]; omega
  rw [e8]
  refine call0 (keepAtom_good ⟨[112], [⟨[], ⟨2, 0, w⟩⟩, ⟨[], ⟨1, n, []⟩⟩, ⟨[], ⟨1, -n, []⟩⟩]⟩ ⟨[112], [⟨[], ⟨2, 0, w⟩⟩, ⟨[], ⟨1, n, []⟩⟩, ⟨[], ⟨1, -n, []⟩⟩]⟩ (by show (3 : Nat) ≤ 1000000; omega)) ?_
  rw [decide_eq_true rfl]
  conv => whnf
  refine branch_of (fun h => ?_) (fun h => ?_)
  · conv => whnf
    refine call0 (wakes10_good) ?_
    conv => whnf
    exact fin0 rfl trivial
  · have h := of_decide_eq_false h
    have e9 : (stpV z5).length = 3 := by rw [List.length_map, e6]
    exact absurd (show ((stpV z5).length : Int) = 3 by rw [e9]; rfl) h
end Go.PV
namespace Go.PV
open Go Go.Proofs
set_option maxRecDepth 100000
theorem lower_good (c : UInt8) : Good Tryz.prog 56 [.int .u8 c.toNat] [] [.bool (smallB c)] [] := by
  refine good_of hP Tryz.func56 (by kernel_rfl) (lv := [0, 2]) (js := []) ⟨rfl, rfl, rfl, rfl, rfl, rfl, _, rfl, ?_⟩
  repeat' (conv => whnf); refine branch_of (fun _ => ?_) (fun _ => ?_)
  all_goals (conv => whnf); exact fin0 (by simp_all [smallB, inB] <;> first | omega | (rw [Bool.eq_iff_iff]; simp; omega)) trivial
theorem upper_good (c : UInt8) : Good Tryz.prog 57 [.int .u8 c.toNat] [] [.bool (largeB c)] [] := by
  refine good_of hP Tryz.func57 (by kernel_rfl) (lv := [0, 2]) (js := []) ⟨rfl, rfl, rfl, rfl, rfl, rfl, _, rfl, ?_⟩
  repeat' (conv => whnf); refine branch_of (fun _ => ?_) (fun _ => ?_)
  all_goals (conv => whnf); exact fin0 (by simp_all [largeB, inB] <;> first | omega | (rw [Bool.eq_iff_iff]; simp; omega)) trivial
theorem rdigit_good (c : UInt8) : Good Tryz.prog 59 [.int .u8 c.toNat] [] [.bool (digitB c)] [] := by
  refine good_of hP Tryz.func59 (by kernel_rfl) (lv := [0, 2]) (js := []) ⟨rfl, rfl, rfl, rfl, rfl, rfl, _, rfl, ?_⟩
  repeat' (conv => whnf); refine branch_of (fun _ => ?_) (fun _ => ?_)
  all_goals (conv => whnf); exact fin0 (by simp_all [digitB, inB] <;> first | omega | (rw [Bool.eq_iff_iff]; simp; omega)) trivial
theorem inner_good (c : UInt8) : Good Tryz.prog 78 [.int .u8 c.toNat] [] [.bool (letterB c)] [] := by
  refine good_of hP Tryz.func78 (by kernel_rfl) (lv := [0, 2]) (js := []) ⟨rfl, rfl, rfl, rfl, rfl, rfl, _, rfl, ?_⟩
  conv => whnf
  refine call0 (lower_good _) ?_
  cases h1 : smallB c with
  | true => conv => whnf
            exact fin0 (by simp [letterB, h1]) trivial
  | false =>
  conv => whnf
  refine call0 (upper_good _) ?_
  cases h2 : largeB c with
  | true => conv => whnf
            exact fin0 (by simp [letterB, h2]) trivial
  | false =>
  conv => whnf
  refine call0 (rdigit_good _) ?_
  cases h3 : digitB c with
  | true => conv => whnf
            exact fin0 (by simp [letterB, h3]) trivial
  | false =>
  conv => whnf
  refine fin0 ?_ trivial
  congr 2
  simp [letterB, h1, h2, h3]; omega
theorem in_good (a b c : Int) : Good Tryz.prog 41 [.int .i64 a, .int .i64 b, .int .i64 c] [] [.bool (decide (b ≤ a ∧ a ≤ c))] [] := by
  refine good_of hP Tryz.func41 (by kernel_rfl) (lv := [0, 1, 2, 6]) (js := []) ⟨rfl, rfl, rfl, rfl, rfl, rfl, _, rfl, ?_⟩
  conv => whnf
  refine branch_of (fun h => ?_) (fun h => ?_)
  · have h := of_decide_eq_true h
    conv => whnf
    exact fin0 (by simp [h]) trivial
  · have h := of_decide_eq_false h
    conv => whnf
    exact fin0 (by simp; omega) trivial
theorem word_good (s : Bs) (large : Bool) (hs : s.length ≤ 1000000) : Good Tryz.prog 42 [.str s, .bool large] [] [.bool (refWordS large s)] [] := by
  refine good_of hP Tryz.func42 (by kernel_rfl) (lv := [0, 1, 4, 5, 26, 30, 37]) (js := [26]) ⟨rfl, rfl, rfl, rfl, rfl, rfl, _, rfl, ?_⟩
  conv => whnf
  refine seq_of hP [0, 1, 4, 5, 26, 30, 37] [26] [0, 4] [] [] (fun st => refWordS large s = s.all letterB ∧ st = ⟨[(0, .str s), (4, .bool false)], []⟩) ?_ ?_
  · conv => whnf
    refine call0 (in_good s.length 1 24) ?_
    conv => whnf
    refine branch_of (fun h => ?_) (fun h => ?_)
    · rw [Bool.not_eq_true'] at h
      have h := of_decide_eq_false h
      conv => whnf
      refine fin0 ?_ trivial
      have : (decide (1 ≤ s.length) && decide (s.length ≤ 24)) = false := by simp; omega
      rw [refWordS, this]; simp
    have h : 1 ≤ s.length ∧ s.length ≤ 24 := by
      rw [Bool.not_eq_false'] at h
      have h := of_decide_eq_true h; omega
    have h0 : 0 < s.length := h.1
    obtain ⟨c, r, hcr, hc⟩ := head_at h0
    have hw : refWordS large s = ((if large then largeB c else smallB c) && s.all letterB) := by
      have e1 : decide (1 ≤ s.length) = true := by simp; omega
      have e2 : decide (s.length ≤ 24) = true := by simp; omega
      rw [refWordS, e1, e2]
      have : headB (fun c => if large then largeB c else smallB c) s = if large then largeB c else smallB c := by rw [hcr]; rfl
      rw [this]; simp
    rw [hw]
    conv => whnf
    refine ⟨c, by rw [← hc]; exact idx h0 rfl, ?_⟩
    conv => whnf
    refine call0 (upper_good _) ?_
    cases large with
    | true =>
      cases hl : largeB c with
      | false =>
        conv => whnf
        exact fin0 rfl trivial
      | true =>
        conv => whnf
        exact ⟨rfl, rfl⟩
    | false =>
      cases hl : largeB c with
      | true =>
        conv => whnf
        refine fin0 ?_ trivial
        rw [if_neg (by simp), large_not_small hl]; rfl
      | false =>
        conv => whnf
        refine ⟨c, by rw [← hc]; exact idx h0 rfl, ?_⟩
        conv => whnf
        refine call0 (lower_good _) ?_
        cases hsm : smallB c with
        | false =>
          conv => whnf
          exact fin0 rfl trivial
        | true =>
          conv => whnf
          exact ⟨rfl, rfl⟩
  rintro st ⟨hw, rfl⟩
  rw [hw]
  conv => whnf
  refine loop_of hP [0, 1, 4, 5, 26, 30, 37] [26] [0, 4, 5] [] [] (fun n st => ∃ k : Nat, n = s.length - k ∧ k ≤ s.length ∧ s.all letterB = (s.drop k).all letterB ∧ st = ⟨[(0, .str s), (4, .bool false), (5, .int .i64 k)], []⟩) s.length ?_ ?_
  · conv => whnf
    exact ⟨0, rfl, Nat.zero_le _, rfl, rfl⟩
  · rintro n st ⟨k, rfl, hk, he, rfl⟩
    conv => whnf
    refine branch_of (fun h => ?_) (fun h => ?_)
    · have h := of_decide_eq_true h
      have hk' : k < s.length := by omega
      rw [all_drop hk'] at he
      conv => whnf
      refine ⟨s[k], idx hk' rfl, ?_⟩
      conv => whnf
      refine call0 (inner_good _) ?_
      cases hl : letterB s[k] with
      | false =>
        rw [hl] at he
        conv => whnf
        exact fin0 (by rw [he]; rfl) trivial
      | true =>
        rw [hl, Bool.true_and] at he
        conv => whnf
        refine ⟨s.length - (k + 1), by omega, k + 1, rfl, by omega, he, ?_⟩
        rw [wr (by omega) (by omega)]; rfl
    · have h := of_decide_eq_false h
      have : s.drop k = [] := List.drop_eq_nil_iff.2 (by omega)
      rw [this] at he
      conv => whnf
      exact fin0 (by rw [he]; rfl) trivial
theorem refNumber_good (s : Bs) (hs : s.length ≤ 1000000) : Good Tryz.prog 61 [.str s] [] [.int .i64 ((refNumS s).getD 0), .bool (refNumS s).isSome] [] := by
  refine good_of hP Tryz.func61 (by kernel_rfl) (lv := [0, 2, 3, 4, 5, 6, 7, 8, 17, 22, 26, 33, 48, 53, 54]) (js := [200001, 17]) ⟨rfl, rfl, rfl, rfl, rfl, rfl, _, rfl, ?_⟩
  conv => whnf
  refine seq_of hP [0, 2, 3, 4, 5, 6, 7, 8, 17, 22, 26, 33, 48, 53, 54] [200001, 17] [0, 2, 3, 4] [] [] (fun st => st = ⟨[(0, .str s), (2, .int .i64 0), (3, .bool false), (4, .bool (signed s))], []⟩) ?_ ?_
  · conv => whnf
    refine branch_of (fun h => ?_) (fun h => ?_)
    · have h := of_decide_eq_true h
      obtain ⟨c, r, rfl, _⟩ := head_at (s := s) (by omega)
      conv => whnf
      refine ⟨c, ⟨by omega, rfl⟩, ?_⟩
      conv => whnf
      have : signed (c :: r) = decide ((c.toNat : Int) = 45) := by show decide _ = decide _; rw [decide_eq_decide]; omega
      rw [this]
    · have h := of_decide_eq_false h
      have hs0 : s = [] := List.eq_nil_of_length_eq_zero (by omega)
      subst hs0
      conv => whnf
      rfl
  rintro st rfl
  conv => whnf
  refine seq_of hP [0, 2, 3, 4, 5, 6, 7, 8, 17, 22, 26, 33, 48, 53, 54] [200001, 17] [0, 2, 3, 4] [] [] (fun st => st = ⟨[(0, .str (unS s)), (2, .int .i64 0), (3, .bool false), (4, .bool (signed s))], []⟩) ?_ ?_
  · conv => whnf
    cases hsg : signed s with
    | true =>
      have hl : 0 < s.length := by
        cases s with
        | nil => simp [signed, headB] at hsg
        | cons c r => simp
      conv => whnf
      refine ⟨⟨⟩, by dsimp only; omega, ?_⟩
      conv => whnf
      rw [unS, hsg]; rfl
    | false =>
      conv => whnf
      rw [unS, hsg]; rfl
  rintro st rfl
  have hul : (unS s).length ≤ s.length := by unfold unS; split <;> simp
  conv => whnf
  refine branch_of (fun h => ?_) (fun h => ?_)
  · have h := of_decide_eq_true h
    have h0 : unS s = [] := List.eq_nil_of_length_eq_zero (by omega)
    conv => whnf
    exact fin0 (by simp [refNumS, h0]) trivial
  have h := of_decide_eq_false h
  have hne : unS s ≠ [] := fun e => h (by rw [e]; rfl)
  conv => whnf
  generalize hu : unS s = u at *
  refine loop_of hP [0, 2, 3, 4, 5, 6, 7, 8, 17, 22, 26, 33, 48, 53, 54] [200001, 17] [0, 2, 3, 4, 5, 6, 7] [] [] (fun m st => ∃ (k : Nat) (n : Nat) (over : Bool), m = u.length - k ∧ k ≤ u.length ∧ n ≤ 4611686018427387904 ∧ u.all digitB = (u.drop k).all digitB ∧ (over = true → 4611686018427387904 < digN (u.take k)) ∧ (over = false → n = digN (u.take k)) ∧
    st = ⟨[(0, .str u), (2, .int .i64 0), (3, .bool false), (4, .bool (signed s)), (5, .int .i64 n), (6, .bool over), (7, .int .i64 k)], []⟩) u.length ?_ ?_
  · conv => whnf
    exact ⟨0, 0, false, rfl, Nat.zero_le _, by omega, rfl, by simp, fun _ => rfl, rfl⟩
  · rintro m st ⟨k, n, over, rfl, hk, hn, he, ho1, ho2, rfl⟩
    conv => whnf
    refine branch_of (fun h => ?_) (fun h => ?_)
    · have h := of_decide_eq_true h
      have hk' : k < u.length := by omega
      rw [all_drop hk'] at he
      conv => whnf
      refine ⟨u[k], idx hk' rfl, ?_⟩
      conv => whnf
      refine call0 (rdigit_good _) ?_
      have hdig := digN_snoc u hk'
      cases hd : digitB u[k] with
      | false =>
        conv => whnf
        rw [hd] at he
        exact fin0 (by simp [refNumS, hu, he]) trivial
      | true =>
        rw [hd, Bool.true_and] at he
        have hd := hd
        simp only [digitB, inB_iff] at hd
        conv => whnf
        refine ⟨u[k], idx hk' rfl, ?_⟩
        have hw1 : IntKind.i64.wrap (IntKind.u8.wrap ((u[k].toNat : Int) - 48)) = (u[k].toNat - 48 : Nat) := by
          have : IntKind.u8.wrap ((u[k].toNat : Int) - 48) = (u[k].toNat - 48 : Nat) := by simp [IntKind.wrap, IntKind.bits, IntKind.signed]; omega
          rw [this, wr (by omega) (by omega)]
        generalize hD : u[k].toNat - 48 = d at *
        have hw2 : IntKind.i64.wrap ((k : Int) + 1) = (k + 1 : Nat) := by rw [wr (by omega) (by omega)]; rfl
        cases over with
        | true =>
          conv => whnf
          refine ⟨u.length - (k + 1), by omega, k + 1, n, true, rfl, by omega, hn, he, fun _ => ?_, by simp, ?_⟩
          · have := ho1 rfl; omega
          · rw [hw2]
        | false =>
          conv => whnf
          have hn1 := ho2 rfl
          have hw3 : IntKind.i64.wrap ((IntKind.i64.wrap (4611686018427387904 - (d : Int))).tdiv 10) = (4611686018427387904 - d) / 10 := by
            have hd9 : d ≤ 9 := by omega
            rw [wr (n := 4611686018427387904 - (d : Int)) (by omega) (by omega), Int.tdiv_eq_ediv_of_nonneg (by omega), wr (by omega) (by omega)]
          rw [hw1]
          refine ⟨⟨⟩, by decide, ?_⟩
          rw [hw3]
          conv => whnf
          cases hov : decide ((4611686018427387904 - (d : Int)) / 10 < n) with
          | true =>
            have hov := of_decide_eq_true hov
            conv => whnf
            refine ⟨u.length - (k + 1), by omega, k + 1, n, true, rfl, by omega, hn, he, fun _ => ?_, by simp, ?_⟩
            · omega
            · rw [hw2]
          | false =>
            have hov := of_decide_eq_false hov
            conv => whnf
            refine ⟨u.length - (k + 1), by omega, k + 1, 10 * n + d, false, rfl, by omega, by omega, he, by simp, fun _ => by omega, ?_⟩
            rw [hw2, wr (n := 10 * (n : Int)) (by omega) (by omega), wr (by omega) (by omega)]; rfl
    · have h := of_decide_eq_false h
      have hku : k = u.length := by omega
      subst hku
      have hal : u.all digitB = true := by rw [he]; simp
      rw [List.take_length] at ho1 ho2
      conv => whnf
      cases over with
      | true =>
        have := ho1 rfl
        conv => whnf
        exact fin0 (by simp [refNumS, hu, this]) trivial
      | false =>
        have hn2 := ho2 rfl
        conv => whnf
        cases hsg : signed s with
        | true =>
          conv => whnf
          refine fin0 ?_ trivial
          rw [wr (by omega) (by omega)]
          have hle : ¬ 4611686018427387904 < n := by omega
          simp [refNumS, hu, hne, hal, hsg, ← hn2, hle]
        | false =>
          conv => whnf
          refine fin0 ?_ trivial
          have hle : ¬ 4611686018427387904 < n := by omega
          simp [refNumS, hu, hne, hal, hsg, ← hn2, hle]
theorem refQuoted_good (s : Bs) (hs : s.length ≤ 1000000) : Good Tryz.prog 62 [.str s] [] [.str (refQuotedS s).1, .bool (refQuotedS s).2] [] := by
  refine good_of hP Tryz.func62 (by kernel_rfl) (lv := [0, 2, 3, 4, 5, 13, 17, 20, 36, 58, 59]) (js := [13]) ⟨rfl, rfl, rfl, rfl, rfl, rfl, _, rfl, ?_⟩
  conv => whnf
  refine seq_of hP [0, 2, 3, 4, 5, 13, 17, 20, 36, 58, 59] [13] [0, 2, 3] [] [] (fun st => refQuotedS s = refQGo [] (s.drop 1) ∧ st = ⟨[(0, .str s), (2, .str []), (3, .bool false)], []⟩) ?_ ?_
  · conv => whnf
    refine branch_of (fun h => ?_) (fun h => ?_)
    · have h := of_decide_eq_true h
      conv => whnf
      refine fin0 ?_ trivial
      match s, h with
      | [], _ => rfl
      | [c], _ => rfl
      | c :: d :: r, h => simp at h; omega
    · have h := of_decide_eq_false h
      match s, h with
      | [], h => simp at h
      | [c], h => simp at h
      | c :: d :: r, h =>
        conv => whnf
        refine ⟨c, ⟨by omega, rfl⟩, ?_⟩
        conv => whnf
        refine branch_of (fun h1 => ?_) (fun h1 => ?_)
        · rw [Bool.not_eq_true'] at h1
          have h1 := of_decide_eq_false h1
          conv => whnf
          refine fin0 ?_ trivial
          rw [refQuotedS, if_neg (by omega)]
        · rw [Bool.not_eq_false'] at h1
          have h1 := of_decide_eq_true h1
          conv => whnf
          exact ⟨by rw [refQuotedS, if_pos (by omega)]; rfl, rfl⟩
  rintro st ⟨hq, rfl⟩
  conv => whnf
  refine loop_of hP [0, 2, 3, 4, 5, 13, 17, 20, 36, 58, 59] [13] [0, 2, 3, 4, 5] [] [] (fun n st => ∃ (k : Nat) (out : Bs), n = s.length + 1 - k ∧ 1 ≤ k ∧ (k ≤ s.length ∨ k = 1) ∧ out.length ≤ k ∧ refQuotedS s = refQGo out (s.drop k) ∧ st = ⟨[(0, .str s), (2, .str []), (3, .bool false), (4, .str out), (5, .int .i64 k)], []⟩) s.length ?_ ?_
  · conv => whnf
    exact ⟨1, [], by omega, by omega, .inr rfl, Nat.zero_le _, hq, rfl⟩
  · rintro n st ⟨k, out, rfl, hk0, hk, hout, he, rfl⟩
    conv => whnf
    refine branch_of (fun h => ?_) (fun h => ?_)
    · have h := of_decide_eq_true h
      have hk' : k < s.length := by omega
      have hw1 : IntKind.i64.wrap ((k : Int) + 1) = (k + 1 : Nat) := by rw [wr (by omega) (by omega)]; rfl
      rw [drop_cons hk'] at he
      conv => whnf
      refine ⟨s[k], idx hk' rfl, ?_⟩
      conv => whnf
      refine branch_of (fun h1 => ?_) (fun h1 => ?_)
      · have h1 := of_decide_eq_true h1
        rw [refQ_quote (by omega)] at he
        have hr : decide (s.drop (k + 1) = []) = decide ((k : Int) = s.length - 1) := by
          rw [decide_eq_decide, List.drop_eq_nil_iff]; omega
        rw [hr] at he
        conv => whnf
        rw [wr (by omega) (by omega)]
        refine branch_of (fun h2 => ?_) (fun h2 => ?_)
        · conv => whnf
          refine fin0 ?_ trivial
          rw [he, h2]; simp; omega
        · conv => whnf
          refine fin0 ?_ trivial
          rw [he, h2]; simp
      · have h1 := of_decide_eq_false h1
        conv => whnf
        refine ⟨s[k], idx hk' rfl, ?_⟩
        conv => whnf
        refine branch_of (fun h2 => ?_) (fun h2 => ?_)
        · have h2 := of_decide_eq_true h2
          conv => whnf
          rw [hw1]
          refine branch_of (fun h3 => ?_) (fun h3 => ?_)
          · have h3 := of_decide_eq_true h3
            have : s.drop (k + 1) = [] := List.drop_eq_nil_iff.2 (by omega)
            rw [this, refQ_bad (by omega) (.inl ⟨by omega, rfl⟩)] at he
            conv => whnf
            exact fin0 (by rw [he]) trivial
          · have h3 := of_decide_eq_false h3
            have hk2 : k + 1 < s.length := by omega
            have hw2 : IntKind.i64.wrap (((k + 1 : Nat) : Int) + 1) = (k + 2 : Nat) := by rw [wr (by omega) (by omega)]; rfl
            rw [drop_cons hk2] at he
            conv => whnf
            refine ⟨s[k + 1], idx hk2 rfl, ?_⟩
            have esc : escB s[k + 1] = true → ∃ m, m < s.length + 1 - k ∧ ∃ (k' : Nat) (out' : Bs), m = s.length + 1 - k' ∧ 1 ≤ k' ∧ (k' ≤ s.length ∨ k' = 1) ∧ out'.length ≤ k' ∧ refQuotedS s = refQGo out' (s.drop k') ∧ (⟨[(0, .str s), (2, .str []), (3, .bool false), (4, .str (out ++ (s.take (k + 2)).drop (k + 1))), (5, .int .i64 ((k + 2 : Nat) : Int))], []⟩ : St) = ⟨[(0, .str s), (2, .str []), (3, .bool false), (4, .str out'), (5, .int .i64 k')], []⟩ := fun hd => by
              refine ⟨s.length + 1 - (k + 2), by omega, k + 2, out ++ [s[k + 1]], rfl, by omega, by omega, by simp; omega, by rw [he, refQ_esc (by omega) hd], ?_⟩
              rw [sub1 hk2]
            conv => whnf
            refine branch_of (fun h4 => ?_) (fun h4 => ?_)
            · rw [Bool.not_eq_true'] at h4
              have h4 := of_decide_eq_false h4
              conv => whnf
              refine ⟨s[k + 1], idx hk2 rfl, ?_⟩
              conv => whnf
              refine branch_of (fun h5 => ?_) (fun h5 => ?_)
              · rw [Bool.not_eq_true'] at h5
                have h5 := of_decide_eq_false h5
                rw [refQ_bad (by omega) (.inl ⟨by omega, by simp [headB, escB]; omega⟩)] at he
                conv => whnf
                exact fin0 (by rw [he]) trivial
              · rw [Bool.not_eq_false'] at h5
                have h5 := of_decide_eq_true h5
                conv => whnf
                rw [hw2]
                refine ⟨⟨⟩, by dsimp only; omega, ?_⟩
                conv => whnf
                refine ⟨⟨⟩, by dsimp only; simp; omega, ?_⟩
                conv => whnf
                rw [hw2]
                exact esc (by simp [escB]; omega)
            · rw [Bool.not_eq_false'] at h4
              have h4 := of_decide_eq_true h4
              conv => whnf
              rw [hw2]
              refine ⟨⟨⟩, by dsimp only; omega, ?_⟩
              conv => whnf
              refine ⟨⟨⟩, by dsimp only; simp; omega, ?_⟩
              conv => whnf
              rw [hw2]
              exact esc (by simp [escB]; omega)
        · have h2 := of_decide_eq_false h2
          conv => whnf
          refine ⟨s[k], idx hk' rfl, ?_⟩
          conv => whnf
          have hwb : IntKind.i64.wrap (s[k].toNat : Int) = s[k].toNat := by have := UInt8.toNat_lt s[k]; rw [wr (by omega) (by omega)]
          rw [hwb]
          refine call0 (in_good _ 32 126) ?_
          conv => whnf
          refine branch_of (fun h3 => ?_) (fun h3 => ?_)
          · rw [Bool.not_eq_true'] at h3
            have h3 := of_decide_eq_false h3
            rw [refQ_bad (by omega) (.inr ⟨by omega, by simp only [plainB, inB_no]; omega⟩)] at he
            conv => whnf
            exact fin0 (by rw [he]) trivial
          · rw [Bool.not_eq_false'] at h3
            have h3 := of_decide_eq_true h3
            rw [refQ_step (by omega) (by omega) (by simp only [plainB, inB_iff]; omega)] at he
            conv => whnf
            rw [hw1]
            refine ⟨⟨⟩, by dsimp only; omega, ?_⟩
            conv => whnf
            refine ⟨⟨⟩, by dsimp only; simp; omega, ?_⟩
            conv => whnf
            rw [hw1]
            refine ⟨s.length + 1 - (k + 1), by omega, k + 1, out ++ [s[k]], rfl, by omega, by omega, by simp; omega, he, ?_⟩
            show (⟨[(0, .str s), (2, .str []), (3, .bool false), (4, .str (out ++ (s.take (k + 1)).drop k)), (5, .int .i64 ((k + 1 : Nat) : Int))], []⟩ : St) = _
            rw [sub1 hk']
    · have h := of_decide_eq_false h
      have : s.drop k = [] := List.drop_eq_nil_iff.2 (by omega)
      rw [this] at he
      conv => whnf
      exact fin0 (by rw [he]; rfl) trivial
end Go.PV
namespace Go.PV
open Go Go.Proofs
set_option maxRecDepth 100000
theorem inner9_good (c : UInt8) : Good Tryz.prog 58 [.int .u8 c.toNat] [] [.bool (letterB c)] [] := by
  refine good_of hP Tryz.func58 (by kernel_rfl) (lv := [0, 2]) (js := []) ⟨rfl, rfl, rfl, rfl, rfl, rfl, _, rfl, ?_⟩
  conv => whnf
  refine call0 (lower_good _) ?_
  cases h1 : smallB c with
  | true => conv => whnf
            exact fin0 (by simp [letterB, h1]) trivial
  | false =>
  conv => whnf
  refine call0 (upper_good _) ?_
  cases h2 : largeB c with
  | true => conv => whnf
            exact fin0 (by simp [letterB, h2]) trivial
  | false =>
  conv => whnf
  refine call0 (rdigit_good _) ?_
  cases h3 : digitB c with
  | true => conv => whnf
            exact fin0 (by simp [letterB, h3]) trivial
  | false =>
  conv => whnf
  refine fin0 ?_ trivial
  congr 2
  simp [letterB, h1, h2, h3]; omega
theorem single_good (c : UInt8) : Good Tryz.prog 60 [.int .u8 c.toNat] [] [.bool (decide (c ∈ signs1))] [] := by
  refine good_of hP Tryz.func60 (by kernel_rfl) (lv := [0, 2, 3, 4, 8, 15]) (js := []) ⟨rfl, rfl, rfl, rfl, rfl, rfl, _, rfl, ?_⟩
  conv => whnf
  refine loop_of hP [0, 2, 3, 4, 8, 15] [] [0, 2, 3, 4] [] [] (fun n st => ∃ k : Nat, n = 13 - k ∧ k ≤ 13 ∧ (c ∈ signs1 ↔ c ∈ signs1.drop k) ∧ st = ⟨[(0, .int .u8 c.toNat), (2, .bool false), (3, .str signs1), (4, .int .i64 k)], []⟩) 13 ?_ ?_
  · conv => whnf
    exact ⟨0, rfl, by omega, by rw [List.drop_zero], rfl⟩
  · rintro n st ⟨k, rfl, hk, he, rfl⟩
    have hlen : signs1.length = 13 := rfl
    conv => whnf
    refine branch_of (fun h => ?_) (fun h => ?_)
    · have h := of_decide_eq_true h
      rw [hlen] at h
      have hk' : k < signs1.length := by rw [hlen]; omega
      rw [drop_cons hk', List.mem_cons] at he
      conv => whnf
      refine ⟨signs1[k], idx hk' rfl, ?_⟩
      conv => whnf
      refine branch_of (fun h1 => ?_) (fun h1 => ?_)
      · have h1 := of_decide_eq_true h1
        have : c = signs1[k] := UInt8.toNat_inj.1 (by omega)
        conv => whnf
        exact fin0 (by rw [decide_eq_true (he.2 (.inl this))]) trivial
      · have h1 := of_decide_eq_false h1
        have : ¬ c = signs1[k] := fun e => h1 (by rw [← e])
        conv => whnf
        refine ⟨13 - (k + 1), by omega, k + 1, rfl, by omega, by rw [he]; simp [this], ?_⟩
        rw [wr (by omega) (by omega)]; rfl
    · have h := of_decide_eq_false h
      rw [hlen] at h
      have hk3 : k = 13 := by omega
      subst hk3
      have hno : ¬ c ∈ signs1 := fun hm => by have := he.1 hm; simp [signs1] at this
      conv => whnf
      exact fin0 (by rw [decide_eq_false hno]) trivial
theorem right_good (k : Int) (t : Bs) (hs : t.length ≤ 1000000) : Good Tryz.prog 31 [.int .i64 k, .str t] [] [.bool (refRight k t)] [] := by
  refine good_of hP Tryz.func31 (by kernel_rfl) (lv := [0, 1, 4, 6, 8, 9, 10, 14, 18, 26]) (js := []) ⟨rfl, rfl, rfl, rfl, rfl, rfl, _, rfl, ?_⟩
  conv => whnf
  refine branch_of (fun h1 => ?_) (fun h1 => ?_)
  · have h1 := of_decide_eq_true h1
    conv => whnf
    refine call0 (word_good t false hs) ?_
    conv => whnf
    exact fin0 (by rw [refRight, if_pos h1]) trivial
  have h1 := of_decide_eq_false h1
  conv => whnf
  refine branch_of (fun h2 => ?_) (fun h2 => ?_)
  · have h2 := of_decide_eq_true h2
    conv => whnf
    refine call0 (word_good t true hs) ?_
    conv => whnf
    exact fin0 (by rw [refRight, if_neg h1, if_pos h2]) trivial
  have h2 := of_decide_eq_false h2
  conv => whnf
  refine branch_of (fun h3 => ?_) (fun h3 => ?_)
  · have h3 := of_decide_eq_true h3
    conv => whnf
    refine call0 (refNumber_good t hs) ?_
    conv => whnf
    exact fin0 (by rw [refRight, if_neg h1, if_neg h2, if_pos h3]) trivial
  have h3 := of_decide_eq_false h3
  conv => whnf
  refine branch_of (fun h4 => ?_) (fun h4 => ?_)
  · have h4 := of_decide_eq_true h4
    conv => whnf
    refine call0 (refQuoted_good t hs) ?_
    conv => whnf
    exact fin0 (by rw [refRight, if_neg h1, if_neg h2, if_neg h3, if_pos h4]) trivial
  have h4 := of_decide_eq_false h4
  have e : refRight k t = ((decide (t.length = 1) && headB (fun c => decide (c ∈ signs1)) t) || twoB t) := by rw [refRight, if_neg h1, if_neg h2, if_neg h3, if_neg h4]
  rw [e]
  conv => whnf
  refine branch_of (fun h => ?_) (fun h => ?_)
  · have h := of_decide_eq_true h
    obtain ⟨c, r, rfl, _⟩ := head_at (s := t) (by omega)
    have hr : r = [] := by simp at h; exact List.eq_nil_of_length_eq_zero (by omega)
    subst hr
    conv => whnf
    refine ⟨c, ⟨by omega, rfl⟩, ?_⟩
    conv => whnf
    refine call0 (single_good c) ?_
    have ex : (decide (([c] : Bs).length = 1) && headB (fun c => decide (c ∈ signs1)) [c]) = decide (c ∈ signs1) := rfl
    have tw : twoB [c] = false := by simp [twoB]
    rw [ex, tw, Bool.or_false]
    cases hm : decide (c ∈ signs1) with
    | true =>
      conv => whnf
      exact fin0 rfl trivial
    | false =>
      conv => whnf
      refine branch_of (fun h => absurd (of_decide_eq_true h) (by simp)) (fun _ => ?_)
      conv => whnf
      refine branch_of (fun h => absurd (of_decide_eq_true h) (by simp)) (fun _ => ?_)
      conv => whnf
      refine branch_of (fun h => absurd (of_decide_eq_true h) (by simp)) (fun _ => ?_)
      conv => whnf
      exact fin0 (by simp) trivial
  · have h := of_decide_eq_false h
    have ex : (decide (t.length = 1) && headB (fun c => decide (c ∈ signs1)) t) = false := by rw [decide_eq_false (by omega)]; rfl
    conv => whnf
    refine branch_of (fun h => ?_) (fun t0 => ?_)
    · have h : t = [33, 61] := of_decide_eq_true h
      conv => whnf
      exact fin0 (by subst h; rfl) trivial
    have t0 : t ≠ [33, 61] := of_decide_eq_false t0
    conv => whnf
    refine branch_of (fun h => ?_) (fun t1 => ?_)
    · have h : t = [60, 61] := of_decide_eq_true h
      conv => whnf
      exact fin0 (by subst h; rfl) trivial
    have t1 : t ≠ [60, 61] := of_decide_eq_false t1
    conv => whnf
    refine branch_of (fun h => ?_) (fun t2 => ?_)
    · have h : t = [45, 62] := of_decide_eq_true h
      conv => whnf
      exact fin0 (by subst h; rfl) trivial
    have t2 : t ≠ [45, 62] := of_decide_eq_false t2
    conv => whnf
    refine fin0 ?_ trivial
    have ht : twoB t = decide (t = [61, 62]) := by simp [twoB, t0, t1, t2]
    rw [ex, Bool.false_or, ht]
theorem rsign_good (s : Bs) (hs : s.length ≤ 100000) (h0 : s ≠ []) : Good Tryz.prog 30 [.str s] [] [.int .i64 (refSign s).1, .int .i64 (refSign s).2] [] := by
  refine good_of hP Tryz.func30 (by kernel_rfl) (lv := [0, 2, 3, 4, 5, 6, 9, 25, 29, 32, 58, 62, 74, 78, 86, 91, 107, 109]) (js := [200003, 200009, 100001, 100003, 100005, 91]) ⟨rfl, rfl, rfl, rfl, rfl, rfl, _, rfl, ?_⟩
  have hl : 0 < s.length := List.length_pos_iff.2 h0
  obtain ⟨c, r, hcr, hc⟩ := head_at hl
  have hrl : s.length = r.length + 1 := by rw [hcr]; rfl
  have hdr : ∀ k, s.drop (k + 1) = r.drop k := fun k => by rw [hcr]; rfl
  conv => whnf
  refine ⟨c, by rw [← hc]; exact idx hl rfl, ?_⟩
  conv => whnf
  refine seq_of hP [0, 2, 3, 4, 5, 6, 9, 25, 29, 32, 58, 62, 74, 78, 86, 91, 107, 109] [200003, 200009, 100001, 100003, 100005, 91] [0, 2, 3, 4, 5, 9] [] [] (fun st => st = ⟨[(0, .str s), (2, .int .i64 0), (3, .int .i64 0), (4, .int .u8 c.toNat), (5, .int .i64 1), (9, .bool (decide (smallB c ∨ largeB c)))], []⟩) ?_ ?_
  · conv => whnf
    refine call0 (lower_good _) ?_
    cases h1 : smallB c with
    | true => conv => whnf
              rfl
    | false =>
      conv => whnf
      refine call0 (upper_good _) ?_
      conv => whnf
      simp only [Bool.false_eq_true, false_or, Bool.decide_eq_true]
  rintro st rfl
  conv => whnf
  refine branch_of (fun h => ?_) (fun h => ?_)
  · have h := of_decide_eq_true h
    have e : refSign s = (if smallB c then 1 else 2, 1 + (r.takeWhile letterB).length) := by rw [hcr, refSign, if_pos h]
    have htl := (List.takeWhile_prefix (p := letterB) (l := r)).length_le
    conv => whnf
    refine seq_of hP [0, 2, 3, 4, 5, 6, 9, 25, 29, 32, 58, 62, 74, 78, 86, 91, 107, 109] [200003, 200009, 100001, 100003, 100005, 91] [0, 2, 3, 4, 5] [] [] (fun st => st = ⟨[(0, .str s), (2, .int .i64 0), (3, .int .i64 0), (4, .int .u8 c.toNat), (5, .int .i64 (1 + (r.takeWhile letterB).length : Nat))], []⟩) ?_ ?_
    · conv => whnf
      refine loop_of hP [0, 2, 3, 4, 5, 6, 9, 25, 29, 32, 58, 62, 74, 78, 86, 91, 107, 109] [200003, 200009, 100001, 100003, 100005, 91] [0, 2, 3, 4, 5] [] [] (fun m st => ∃ k : Nat, m = s.length - k ∧ 1 ≤ k ∧ k ≤ s.length ∧ 1 + (r.takeWhile letterB).length = k + ((s.drop k).takeWhile letterB).length ∧ st = ⟨[(0, .str s), (2, .int .i64 0), (3, .int .i64 0), (4, .int .u8 c.toNat), (5, .int .i64 k)], []⟩) (s.length - 1) ?_ ?_
      · conv => whnf
        exact ⟨1, rfl, by omega, by omega, by rw [hdr 0, List.drop_zero], rfl⟩
      · rintro m st ⟨k, rfl, hk1, hk, he, rfl⟩
        conv => whnf
        refine branch_of (fun h2 => ?_) (fun h2 => ?_)
        · have h2 := of_decide_eq_true h2
          have hk' : k < s.length := by omega
          rw [takeWhile_drop hk'] at he
          conv => whnf
          refine ⟨s[k], idx hk' rfl, ?_⟩
          conv => whnf
          refine call0 (inner9_good _) ?_
          cases hp : letterB s[k] with
          | true =>
            rw [hp, if_pos rfl, List.length_cons] at he
            conv => whnf
            refine ⟨s.length - (k + 1), by omega, k + 1, rfl, by omega, by omega, by omega, ?_⟩
            rw [wr (by omega) (by omega)]; rfl
          | false =>
            rw [hp, if_neg (by simp)] at he
            conv => whnf
            rw [he]; rfl
        · have h2 := of_decide_eq_false h2
          have hd : s.drop k = [] := List.drop_eq_nil_iff.2 (by omega)
          rw [hd] at he
          conv => whnf
          rw [he]; rfl
    rintro st rfl
    conv => whnf
    refine call0 (lower_good _) ?_
    cases hsm : smallB c with
    | true =>
      rw [hsm] at e
      conv => whnf
      exact fin0 (by rw [e]; rfl) trivial
    | false =>
      rw [hsm] at e
      conv => whnf
      exact fin0 (by rw [e]; rfl) trivial
  · have hn := of_decide_eq_false h
    conv => whnf
    refine seq_of hP [0, 2, 3, 4, 5, 6, 9, 25, 29, 32, 58, 62, 74, 78, 86, 91, 107, 109] [200003, 200009, 100001, 100003, 100005, 91] [0, 2, 3, 4, 5, 32] [] [] (fun st => st = ⟨[(0, .str s), (2, .int .i64 0), (3, .int .i64 0), (4, .int .u8 c.toNat), (5, .int .i64 1), (32, .bool (decide (digitB c ∨ (c.toNat = 45 ∧ headB digitB r))))], []⟩) ?_ ?_
    · conv => whnf
      refine call0 (rdigit_good _) ?_
      cases h1 : digitB c with
      | true => conv => whnf
                rfl
      | false =>
        conv => whnf
        refine branch_of (fun h2 => ?_) (fun h2 => ?_)
        · have h2 : c.toNat = 45 := by have := of_decide_eq_true h2; omega
          conv => whnf
          refine branch_of (fun h3 => ?_) (fun h3 => ?_)
          · have h3 := of_decide_eq_true h3
            have h31 : 1 < s.length := by omega
            have hd : headB digitB r = digitB s[1] := by
              have : r = s[1] :: s.drop 2 := by
                have e := drop_cons h31
                conv at e => lhs; rw [hcr]
                simpa using e
              rw [this]; rfl
            conv => whnf
            refine ⟨s[1], idx h31 rfl, ?_⟩
            conv => whnf
            refine call0 (rdigit_good _) ?_
            conv => whnf
            simp only [h2, hd, Bool.false_eq_true, false_or, true_and, Bool.decide_eq_true]
          · have h3 := of_decide_eq_false h3
            have hr : r = [] := by
              rw [hcr] at h3; simp at h3
              exact List.eq_nil_of_length_eq_zero (by omega)
            subst hr
            conv => whnf
            simp only [h2, headB, Bool.false_eq_true, and_false, or_false, decide_false]
        · have h2 : c.toNat ≠ 45 := by have := of_decide_eq_false h2; omega
          conv => whnf
          simp only [h2, false_and, Bool.false_eq_true, or_false, decide_false]
    rintro st rfl
    conv => whnf
    refine branch_of (fun h => ?_) (fun h => ?_)
    · have h := of_decide_eq_true h
      have e : refSign s = (3, 1 + (r.takeWhile digitB).length) := by rw [hcr, refSign, if_neg hn, if_pos h]
      have htl := (List.takeWhile_prefix (p := digitB) (l := r)).length_le
      conv => whnf
      refine seq_of hP [0, 2, 3, 4, 5, 6, 9, 25, 29, 32, 58, 62, 74, 78, 86, 91, 107, 109] [200003, 200009, 100001, 100003, 100005, 91] [0, 2, 3, 4, 5] [] [] (fun st => st = ⟨[(0, .str s), (2, .int .i64 0), (3, .int .i64 0), (4, .int .u8 c.toNat), (5, .int .i64 (1 + (r.takeWhile digitB).length : Nat))], []⟩) ?_ ?_
      · conv => whnf
        refine loop_of hP [0, 2, 3, 4, 5, 6, 9, 25, 29, 32, 58, 62, 74, 78, 86, 91, 107, 109] [200003, 200009, 100001, 100003, 100005, 91] [0, 2, 3, 4, 5] [] [] (fun m st => ∃ k : Nat, m = s.length - k ∧ 1 ≤ k ∧ k ≤ s.length ∧ 1 + (r.takeWhile digitB).length = k + ((s.drop k).takeWhile digitB).length ∧ st = ⟨[(0, .str s), (2, .int .i64 0), (3, .int .i64 0), (4, .int .u8 c.toNat), (5, .int .i64 k)], []⟩) (s.length - 1) ?_ ?_
        · conv => whnf
          exact ⟨1, rfl, by omega, by omega, by rw [hdr 0, List.drop_zero], rfl⟩
        · rintro m st ⟨k, rfl, hk1, hk, he, rfl⟩
          conv => whnf
          refine branch_of (fun h2 => ?_) (fun h2 => ?_)
          · have h2 := of_decide_eq_true h2
            have hk' : k < s.length := by omega
            rw [takeWhile_drop hk'] at he
            conv => whnf
            refine ⟨s[k], idx hk' rfl, ?_⟩
            conv => whnf
            refine call0 (rdigit_good _) ?_
            cases hp : digitB s[k] with
            | true =>
              rw [hp, if_pos rfl, List.length_cons] at he
              conv => whnf
              refine ⟨s.length - (k + 1), by omega, k + 1, rfl, by omega, by omega, by omega, ?_⟩
              rw [wr (by omega) (by omega)]; rfl
            | false =>
              rw [hp, if_neg (by simp)] at he
              conv => whnf
              rw [he]; rfl
          · have h2 := of_decide_eq_false h2
            have hd : s.drop k = [] := List.drop_eq_nil_iff.2 (by omega)
            rw [hd] at he
            conv => whnf
            rw [he]; rfl
      rintro st rfl
      conv => whnf
      exact fin0 (by rw [e]) trivial
    · have hn2 := of_decide_eq_false h
      conv => whnf
      refine branch_of (fun h => ?_) (fun h => ?_)
      · have h : c.toNat = 34 := by have := of_decide_eq_true h; omega
        have e : refSign s = if refText 1 r = 0 then (0, 0) else (4, refText 1 r) := by rw [hcr, refSign, if_neg hn, if_neg hn2, if_pos h]
        conv => whnf
        refine seq_of hP [0, 2, 3, 4, 5, 6, 9, 25, 29, 32, 58, 62, 74, 78, 86, 91, 107, 109] [200003, 200009, 100001, 100003, 100005, 91] [0, 2, 3, 5] [] [] (fun st => ∃ q : Nat, q ≤ s.length + 1 ∧ ((q < s.length ∧ refText 1 r = q + 1) ∨ (s.length ≤ q ∧ refText 1 r = 0)) ∧ st = ⟨[(0, .str s), (2, .int .i64 0), (3, .int .i64 0), (5, .int .i64 q)], []⟩) ?_ ?_
        · conv => whnf
          refine loop_of hP [0, 2, 3, 4, 5, 6, 9, 25, 29, 32, 58, 62, 74, 78, 86, 91, 107, 109] [200003, 200009, 100001, 100003, 100005, 91] [0, 2, 3, 5] [] [] (fun m st => ∃ k : Nat, m = s.length + 1 - k ∧ 1 ≤ k ∧ k ≤ s.length + 1 ∧ refText 1 r = refText k (s.drop k) ∧ st = ⟨[(0, .str s), (2, .int .i64 0), (3, .int .i64 0), (5, .int .i64 k)], []⟩) s.length ?_ ?_
          · conv => whnf
            exact ⟨1, by omega, by omega, by omega, by rw [hdr 0, List.drop_zero], rfl⟩
          · rintro m st ⟨k, rfl, hk1, hk, he, rfl⟩
            conv => whnf
            refine branch_of (fun h2 => ?_) (fun h2 => ?_)
            · have h2 := of_decide_eq_true h2
              have hk' : k < s.length := by omega
              have hw1 : IntKind.i64.wrap ((k : Int) + 1) = (k + 1 : Nat) := by rw [wr (by omega) (by omega)]; rfl
              have hw2 : IntKind.i64.wrap (((k + 1 : Nat) : Int) + 1) = (k + 2 : Nat) := by rw [wr (by omega) (by omega)]; rfl
              rw [drop_cons hk'] at he
              conv => whnf
              refine ⟨s[k], idx hk' rfl, ?_⟩
              conv => whnf
              refine branch_of (fun h3 => ?_) (fun h3 => ?_)
              · rw [Bool.not_eq_true'] at h3
                have h3 := of_decide_eq_false h3
                conv => whnf
                refine ⟨s[k], idx hk' rfl, ?_⟩
                conv => whnf
                refine branch_of (fun h4 => ?_) (fun h4 => ?_)
                · have h4 := of_decide_eq_true h4
                  conv => whnf
                  rw [hw1, hw2]
                  refine ⟨s.length + 1 - (k + 2), by omega, k + 2, rfl, by omega, by omega, ?_, rfl⟩
                  rw [he]
                  by_cases hk2 : k + 1 < s.length
                  · rw [drop_cons hk2, refText_esc (by omega)]
                  · have h1 : s.drop (k + 1) = [] := List.drop_eq_nil_iff.2 (by omega)
                    have h2 : s.drop (k + 2) = [] := List.drop_eq_nil_iff.2 (by omega)
                    rw [h1, h2, refText_end (by omega)]; rfl
                · have h4 := of_decide_eq_false h4
                  conv => whnf
                  rw [hw1]
                  refine ⟨s.length + 1 - (k + 1), by omega, k + 1, rfl, by omega, by omega, ?_, rfl⟩
                  rw [he, refText_step (by omega) (by omega)]
              · rw [Bool.not_eq_false'] at h3
                have h3 := of_decide_eq_true h3
                rw [refText_quote (by omega)] at he
                conv => whnf
                exact ⟨k, by omega, .inl ⟨hk', he⟩, rfl⟩
            · have h2 := of_decide_eq_false h2
              have hd : s.drop k = [] := List.drop_eq_nil_iff.2 (by omega)
              rw [hd] at he
              conv => whnf
              exact ⟨k, hk, .inr ⟨by omega, he⟩, rfl⟩
        rintro st ⟨q, hq0, hq, rfl⟩
        conv => whnf
        refine branch_of (fun h2 => ?_) (fun h2 => ?_)
        · have h2 := of_decide_eq_true h2
          have h3 : refText 1 r = 0 := by rcases hq with ⟨h3, _⟩ | ⟨_, h3⟩; omega; exact h3
          rw [if_pos h3] at e
          conv => whnf
          exact fin0 (by rw [e]; rfl) trivial
        · have h2 := of_decide_eq_false h2
          have h3 : refText 1 r = q + 1 := by rcases hq with ⟨_, h3⟩ | ⟨h3, _⟩; exact h3; omega
          rw [if_neg (by omega), h3] at e
          conv => whnf
          refine fin0 ?_ trivial
          rw [e, wr (by omega) (by omega)]; rfl
      · have hn3 : c.toNat ≠ 34 := by have := of_decide_eq_false h; omega
        have es : refSign s = if twoB (s.take 2) then (5, 2) else if c ∈ signs1 then (5, 1) else (0, 0) := by
          conv => lhs; rw [hcr]
          rw [refSign, if_neg hn, if_neg hn2, if_neg hn3, ← hcr]
        conv => whnf
        refine seq_of hP [0, 2, 3, 4, 5, 6, 9, 25, 29, 32, 58, 62, 74, 78, 86, 91, 107, 109] [200003, 200009, 100001, 100003, 100005, 91] [0, 2, 3, 4, 6] [] [] (fun st => ∃ w : Bs, twoB w = twoB (s.take 2) ∧ st = ⟨[(0, .str s), (2, .int .i64 0), (3, .int .i64 0), (4, .int .u8 c.toNat), (6, .str w)], []⟩) ?_ ?_
        · conv => whnf
          refine branch_of (fun h2 => ?_) (fun h2 => ?_)
          · have h2 := of_decide_eq_true h2
            conv => whnf
            refine ⟨⟨⟩, by dsimp only; omega, ?_⟩
            conv => whnf
            exact ⟨s.take 2, rfl, rfl⟩
          · have h2 := of_decide_eq_false h2
            have hr : r = [] := List.eq_nil_of_length_eq_zero (by omega)
            conv => whnf
            refine ⟨[], ?_, rfl⟩
            rw [hcr, hr]; simp [twoB]
        rintro st ⟨w, htw, rfl⟩
        conv => whnf
        refine branch_of (fun h => ?_) (fun t0 => ?_)
        · have h : w = [33, 61] := of_decide_eq_true h
          have e : refSign s = (5, 2) := by rw [es, ← htw, if_pos (by rw [h]; rfl)]
          conv => whnf
          exact fin0 (by rw [e]; rfl) trivial
        have t0 : w ≠ [33, 61] := of_decide_eq_false t0
        conv => whnf
        refine branch_of (fun h => ?_) (fun t1 => ?_)
        · have h : w = [60, 61] := of_decide_eq_true h
          have e : refSign s = (5, 2) := by rw [es, ← htw, if_pos (by rw [h]; rfl)]
          conv => whnf
          exact fin0 (by rw [e]; rfl) trivial
        have t1 : w ≠ [60, 61] := of_decide_eq_false t1
        conv => whnf
        refine branch_of (fun h => ?_) (fun t2 => ?_)
        · have h : w = [45, 62] := of_decide_eq_true h
          have e : refSign s = (5, 2) := by rw [es, ← htw, if_pos (by rw [h]; rfl)]
          conv => whnf
          exact fin0 (by rw [e]; rfl) trivial
        have t2 : w ≠ [45, 62] := of_decide_eq_false t2
        conv => whnf
        refine branch_of (fun h => ?_) (fun t3 => ?_)
        · have h : w = [61, 62] := of_decide_eq_true h
          have e : refSign s = (5, 2) := by rw [es, ← htw, if_pos (by rw [h]; rfl)]
          conv => whnf
          exact fin0 (by rw [e]; rfl) trivial
        have t3 : w ≠ [61, 62] := of_decide_eq_false t3
        have hw : twoB w = false := by simp [twoB, t0, t1, t2, t3]
        rw [← htw, hw, if_neg (by simp)] at es
        conv => whnf
        refine call0 (single_good c) ?_
        cases hm : decide (c ∈ signs1) with
        | true =>
          rw [if_pos (of_decide_eq_true hm)] at es
          conv => whnf
          exact fin0 (by rw [es]; rfl) trivial
        | false =>
          rw [if_neg (of_decide_eq_false hm)] at es
          conv => whnf
          exact fin0 (by rw [es]; rfl) trivial
end Go.PV
namespace Go.PV
open Go Go.Proofs
set_option maxRecDepth 100000
theorem rlex_good (s : Bs) (hs : s.length ≤ 20000) : Good Tryz.prog 11 [.str s] [] [.sl 4 (toksV (toksR s)), .agg [.int .i64 (posR s).1, .int .i64 (posR s).2], .int .i64 (errR s)] [] := by
  refine good_of hP Tryz.func11 (by kernel_rfl) (lv := [0, 2, 3, 4, 5, 6, 7, 8, 9, 10, 11, 12, 16, 22, 45, 59, 74, 90, 95, 107]) (js := [100002, 100003, 100005]) ⟨rfl, rfl, rfl, rfl, rfl, rfl, _, rfl, ?_⟩
  conv => whnf
  refine branch_of (fun h => absurd (of_decide_eq_true h) (by omega)) (fun _ => ?_)
  conv => whnf
  refine loop_of hP [0, 2, 3, 4, 5, 6, 7, 8, 9, 10, 11, 12, 16, 22, 45, 59, 74, 90, 95, 107] [100002, 100003, 100005] [0, 2, 3, 4, 5, 6, 7, 8] [67, 69, 70, 71] [.slot 6 4] (fun m st => ∃ (i f : Nat) (acc : List Tok), m = s.length - i ∧ i ≤ s.length ∧ s.length ≤ f + i ∧ acc.length ≤ i ∧ toksS s = (acc ++ (toksGo s f (i + blanksN false (s.drop i))).1, (toksGo s f (i + blanksN false (s.drop i))).2) ∧
    st = ⟨[(0, .str s), (2, .nil), (3, .ptr 67 0 0), (4, .int .i64 0), (5, .ptr 69 0 0), (6, .own 70 0), (7, .ptr 71 0 0), (8, .int .i64 i)], [(67, .box 0 [.int .i64 0, .int .i64 0]), (69, .box 0 [.int .i64 0, .int .i64 0]), (70, .arr 0 false 4 (toksV acc)), (71, .box 0 [.int .i64 (posS (s.take i)).1, .int .i64 (posS (s.take i)).2])]⟩) s.length ?_ ?_
  · conv => whnf
    exact ⟨0, s.length, [], rfl, Nat.zero_le _, by omega, Nat.zero_le _, by rw [List.drop_zero, Nat.zero_add]; rfl, rfl⟩
  · rintro m st ⟨i, f, acc, rfl, hi, hf, hacc, he, rfl⟩
    conv => whnf
    refine branch_of (fun h => ?_) (fun h => ?_)
    · have h := of_decide_eq_true h
      have hi' : i < s.length := by omega
      conv => whnf
      refine ⟨s[i], idx hi' rfl, ?_⟩
      conv => whnf
      refine seq_of hP [0, 2, 3, 4, 5, 6, 7, 8, 9, 10, 11, 12, 16, 22, 45, 59, 74, 90, 95, 107] [100002, 100003, 100005] [0, 2, 3, 4, 5, 6, 7, 8, 10] [67, 69, 70, 71] [] (fun st => ∃ (n f : Nat) (acc : List Tok), 1 ≤ n ∧ i + n ≤ s.length ∧ s.length ≤ f + (i + n) ∧ acc.length ≤ i + n ∧ toksS s = (acc ++ (toksGo s f (i + n + blanksN false (s.drop (i + n)))).1, (toksGo s f (i + n + blanksN false (s.drop (i + n)))).2) ∧
        st = ⟨[(0, .str s), (2, .nil), (3, .ptr 67 0 0), (4, .int .i64 0), (5, .ptr 69 0 0), (6, .own 70 0), (7, .ptr 71 0 0), (8, .int .i64 i), (10, .int .i64 n)], [(67, .box 0 [.int .i64 0, .int .i64 0]), (69, .box 0 [.int .i64 0, .int .i64 0]), (70, .arr 0 false 4 (toksV acc)), (71, .box 0 [.int .i64 (posS (s.take i)).1, .int .i64 (posS (s.take i)).2])]⟩) ?_ ?_
      · conv => whnf
        have hb : s[i].toNat ≠ 37 → blankB s[i] = true → blanksN false (s.drop i) = 1 + blanksN false (s.drop (i + 1)) := fun h1 h2 => by
          rw [drop_cons hi', blanksN, if_neg h1, if_pos h2]
        have hone : blankB s[i] = true → i + 1 ≤ s.length ∧ toksS s = (acc ++ (toksGo s f (i + 1 + blanksN false (s.drop (i + 1)))).1, (toksGo s f (i + 1 + blanksN false (s.drop (i + 1)))).2) := fun h2 => by
          have h1 : s[i].toNat ≠ 37 := by simp [blankB] at h2; omega
          rw [hb h1 h2, ← Nat.add_assoc] at he
          exact ⟨by omega, he⟩
        refine branch_of (fun h1 => ?_) (fun b0 => ?_)
        · obtain ⟨q1, q2⟩ := hone (by have := of_decide_eq_true h1; simp [blankB]; omega)
          conv => whnf
          exact ⟨1, f, acc, Nat.le_refl _, q1, by omega, by omega, q2, rfl⟩
        have b0 := of_decide_eq_false b0
        conv => whnf
        refine branch_of (fun h1 => ?_) (fun b1 => ?_)
        · obtain ⟨q1, q2⟩ := hone (by have := of_decide_eq_true h1; simp [blankB]; omega)
          conv => whnf
          exact ⟨1, f, acc, Nat.le_refl _, q1, by omega, by omega, q2, rfl⟩
        have b1 := of_decide_eq_false b1
        conv => whnf
        refine branch_of (fun h1 => ?_) (fun b2 => ?_)
        · obtain ⟨q1, q2⟩ := hone (by have := of_decide_eq_true h1; simp [blankB]; omega)
          conv => whnf
          exact ⟨1, f, acc, Nat.le_refl _, q1, by omega, by omega, q2, rfl⟩
        have b2 := of_decide_eq_false b2
        conv => whnf
        refine branch_of (fun h1 => ?_) (fun b3 => ?_)
        · obtain ⟨q1, q2⟩ := hone (by have := of_decide_eq_true h1; simp [blankB]; omega)
          conv => whnf
          exact ⟨1, f, acc, Nat.le_refl _, q1, by omega, by omega, q2, rfl⟩
        have b3 := of_decide_eq_false b3
        conv => whnf
        refine branch_of (fun h1 => ?_) (fun h1 => ?_)
        · have h1 := of_decide_eq_true h1
          have hl := lineN_le (s.drop i)
          rw [List.length_drop] at hl
          have hl1 : 1 ≤ lineN (s.drop i) := by
            rw [drop_cons hi']; unfold lineN; rw [List.takeWhile_cons, if_pos (by simp; omega)]; simp
          have done : ∀ k, lineN (s.drop i) = k → 1 ≤ k ∧ i + k ≤ s.length ∧ s.length ≤ f + (i + k) ∧ acc.length ≤ i + k ∧ toksS s = (acc ++ (toksGo s f (i + k + blanksN false (s.drop (i + k)))).1, (toksGo s f (i + k + blanksN false (s.drop (i + k)))).2) := fun k hk => by
            subst hk
            have e2 := blanksN_line (s.drop i)
            have e3 : blanksN true (s.drop i) = 1 + blanksN true (s.drop (i + 1)) := by rw [drop_cons hi', blanksN, if_neg (by omega)]
            have e4 : blanksN false (s.drop i) = 1 + blanksN true (s.drop (i + 1)) := by rw [drop_cons hi', blanksN, if_pos (by omega)]
            rw [List.drop_drop] at e2
            rw [e4, ← e3, e2, ← Nat.add_assoc] at he
            exact ⟨hl1, by omega, by omega, by omega, he⟩
          conv => whnf
          refine loop_of hP [0, 2, 3, 4, 5, 6, 7, 8, 9, 10, 11, 12, 16, 22, 45, 59, 74, 90, 95, 107] [100002, 100003, 100005] [0, 2, 3, 4, 5, 6, 7, 8, 10] [67, 69, 70, 71] [] (fun m st => ∃ k : Nat, m = s.length - k ∧ i + k ≤ s.length ∧ lineN (s.drop i) = k + lineN (s.drop (i + k)) ∧ st = ⟨[(0, .str s), (2, .nil), (3, .ptr 67 0 0), (4, .int .i64 0), (5, .ptr 69 0 0), (6, .own 70 0), (7, .ptr 71 0 0), (8, .int .i64 i), (10, .int .i64 k)], [(67, .box 0 [.int .i64 0, .int .i64 0]), (69, .box 0 [.int .i64 0, .int .i64 0]), (70, .arr 0 false 4 (toksV acc)), (71, .box 0 [.int .i64 (posS (s.take i)).1, .int .i64 (posS (s.take i)).2])]⟩) s.length ?_ ?_
          · conv => whnf
            exact ⟨0, rfl, by omega, by simp, rfl⟩
          · rintro m st ⟨k, rfl, hk, hln, rfl⟩
            have hw : IntKind.i64.wrap ((i : Int) + (k : Int)) = (i + k : Nat) := by rw [wr (by omega) (by omega)]; omega
            have hw4 : IntKind.i64.wrap ((k : Int) + 1) = (k + 1 : Nat) := by rw [wr (by omega) (by omega)]; rfl
            conv => whnf
            rw [hw]
            refine branch_of (fun h2 => ?_) (fun h2 => ?_)
            · have h2 := of_decide_eq_true h2
              have hk' : i + k < s.length := by omega
              conv => whnf
              refine ⟨s[i + k], idx hk' hw, ?_⟩
              conv => whnf
              refine branch_of (fun h3 => ?_) (fun h3 => ?_)
              · rw [Bool.not_eq_true'] at h3
                have h3 := of_decide_eq_false h3
                have e : lineN (s.drop (i + k)) = 1 + lineN (s.drop (i + k + 1)) := by
                  rw [drop_cons hk']; unfold lineN; rw [List.takeWhile_cons, if_pos (by simp; omega), List.length_cons]; omega
                conv => whnf
                refine ⟨s.length - (k + 1), by omega, k + 1, rfl, by omega, by rw [hln, e, Nat.add_assoc i k 1]; omega, ?_⟩
                rw [hw4]
              · rw [Bool.not_eq_false'] at h3
                have h3 := of_decide_eq_true h3
                have e : lineN (s.drop (i + k)) = 0 := by
                  rw [drop_cons hk']; unfold lineN; rw [List.takeWhile_cons, if_neg (by simp; omega)]; rfl
                obtain ⟨d1, d2, d3, d4, d5⟩ := done k (by omega)
                conv => whnf
                exact ⟨k, f, acc, d1, d2, d3, d4, d5, rfl⟩
            · have h2 := of_decide_eq_false h2
              have hd : s.drop (i + k) = [] := List.drop_eq_nil_iff.2 (by omega)
              have e : lineN (s.drop (i + k)) = 0 := by rw [hd]; rfl
              obtain ⟨d1, d2, d3, d4, d5⟩ := done k (by omega)
              conv => whnf
              exact ⟨k, f, acc, d1, d2, d3, d4, d5, rfl⟩
        · have h1 := of_decide_eq_false h1
          have hz : blanksN false (s.drop i) = 0 := by
            rw [drop_cons hi', blanksN, if_neg (by omega), if_neg (by simp [blankB]; omega)]
          rw [hz, Nat.add_zero] at he
          obtain ⟨f, rfl⟩ : ∃ f', f = f' + 1 := ⟨f - 1, by omega⟩
          rw [toksGo, if_pos hi'] at he
          dsimp only at he
          have hne : s.drop i ≠ [] := fun e => by have := congrArg List.length e; simp at this; omega
          obtain ⟨sr1, sr2⟩ := sign_ref (s.drop i) hne
          have hnl := nextS_le (s.drop i)
          rw [List.length_drop] at hnl
          conv => whnf
          refine ⟨⟨⟩, by dsimp only; omega, ?_⟩
          conv => whnf
          refine call0 (rsign_good (s.drop i) (by simp; omega) hne) ?_
          cases hx : (nextS (s.drop i)).2.2 with
          | true =>
            have sr2 := sr2 hx
            have hp := nextS_pos hx
            rw [hx, if_pos rfl] at he
            rw [hx, sr2] at sr1
            rw [sr2]
            dsimp only at sr1 ⊢
            generalize hN : (nextS (s.drop i)).2.1 = N at *
            generalize hK : (nextS (s.drop i)).1 = K at *
            have sr1 := sr1.symm
            rw [Bool.and_eq_true, decide_eq_true_eq] at sr1
            have hw : IntKind.i64.wrap ((i : Int) + (N : Int)) = (i + N : Nat) := by rw [wr (by omega) (by omega)]; omega
            have htx : (s.take (i + N)).drop i = (s.drop i).take N := by rw [List.drop_take, Nat.add_sub_cancel_left]
            conv => whnf
            refine branch_of (fun h2 => absurd (of_decide_eq_true h2) sr1.1) (fun h2 => ?_)
            conv => whnf
            refine ⟨⟨⟩, by dsimp only; rw [hw]; omega, ?_⟩
            conv => whnf
            refine call0 (right_good K ((s.drop i).take N) (by simp; omega)) ?_ (by rw [hw, ← htx]; rfl)
            rw [sr1.2]
            conv => whnf
            refine ⟨⟨⟩, by dsimp only; rw [hw]; omega, ?_⟩
            conv => whnf
            refine ⟨⟨⟩, by dsimp only; simp only [List.length_map, List.length_cons, List.length_nil]; omega, ?_⟩
            conv => whnf
            refine ⟨by kernel_rfl, ?_⟩
            conv => whnf
            refine ⟨N, f, acc ++ [⟨K, (s.drop i).take N, posS (s.take i)⟩], hp, by omega, by omega, by simp; omega, by rw [he]; simp, ?_⟩
            rw [hw, show toksV (acc ++ [⟨K, (s.drop i).take N, posS (s.take i)⟩]) = toksV acc ++ [Tok.c ⟨K, (s.drop i).take N, posS (s.take i)⟩] from List.map_append]
            show _ = (⟨_, [_, _, (70, .arr 0 false 4 (toksV acc ++ [[.int .i64 K, .str ((s.drop i).take N), .int .i64 (posS (s.take i)).1, .int .i64 (posS (s.take i)).2]])), _]⟩ : St)
            rw [← htx]; rfl
          | false =>
            rw [hx, if_neg (by simp)] at he
            rw [hx] at sr1
            generalize hR : refSign (s.drop i) = R at *
            have hRl := refSign_le (s.drop i)
            rw [hR, List.length_drop] at hRl
            obtain ⟨K, N⟩ := R
            dsimp only at sr1 hRl ⊢
            have hw : IntKind.i64.wrap ((i : Int) + (N : Int)) = (i + N : Nat) := by rw [wr (by omega) (by omega)]; omega
            have htx : (s.take (i + N)).drop i = (s.drop i).take N := by rw [List.drop_take, Nat.add_sub_cancel_left]
            conv => whnf
            refine branch_of (fun h2 => ?_) (fun h2 => ?_)
            · conv => whnf
              refine ⟨by kernel_rfl, ?_⟩
              conv => whnf
              refine fin0 ?_ trivial
              simp [toksR, errR, posR, he]
            · have h2 := of_decide_eq_false h2
              have hrr : refRight K ((s.drop i).take N) = false := by simpa [h2] using sr1.symm
              conv => whnf
              refine ⟨⟨⟩, by dsimp only; rw [hw]; omega, ?_⟩
              conv => whnf
              refine call0 (right_good K ((s.drop i).take N) (by simp; omega)) ?_ (by rw [hw, ← htx]; rfl)
              rw [hrr]
              conv => whnf
              refine ⟨by kernel_rfl, ?_⟩
              conv => whnf
              refine fin0 ?_ trivial
              simp [toksR, errR, posR, he]
      · rintro st ⟨n, f, acc, hn1, hn, hf, hacc, he, rfl⟩
        conv => whnf
        refine seq_of hP [0, 2, 3, 4, 5, 6, 7, 8, 9, 10, 11, 12, 16, 22, 45, 59, 74, 90, 95, 107] [100002, 100003, 100005] [0, 2, 3, 4, 5, 6, 7, 8, 10] [67, 69, 70, 71] [] (fun st => st = ⟨[(0, .str s), (2, .nil), (3, .ptr 67 0 0), (4, .int .i64 0), (5, .ptr 69 0 0), (6, .own 70 0), (7, .ptr 71 0 0), (8, .int .i64 i), (10, .int .i64 n)], [(67, .box 0 [.int .i64 0, .int .i64 0]), (69, .box 0 [.int .i64 0, .int .i64 0]), (70, .arr 0 false 4 (toksV acc)), (71, .box 0 [.int .i64 (posS (s.take (i + n))).1, .int .i64 (posS (s.take (i + n))).2])]⟩) ?_ ?_
        · conv => whnf
          refine loop_of hP [0, 2, 3, 4, 5, 6, 7, 8, 9, 10, 11, 12, 16, 22, 45, 59, 74, 90, 95, 107] [100002, 100003, 100005] [0, 2, 3, 4, 5, 6, 7, 8, 10, 12] [67, 69, 70, 71] [] (fun m st => ∃ k : Nat, m = n - k ∧ k ≤ n ∧ st = ⟨[(0, .str s), (2, .nil), (3, .ptr 67 0 0), (4, .int .i64 0), (5, .ptr 69 0 0), (6, .own 70 0), (7, .ptr 71 0 0), (8, .int .i64 i), (10, .int .i64 n), (12, .int .i64 k)], [(67, .box 0 [.int .i64 0, .int .i64 0]), (69, .box 0 [.int .i64 0, .int .i64 0]), (70, .arr 0 false 4 (toksV acc)), (71, .box 0 [.int .i64 (posS (s.take (i + k))).1, .int .i64 (posS (s.take (i + k))).2])]⟩) n ?_ ?_
          · conv => whnf
            exact ⟨0, rfl, Nat.zero_le _, rfl⟩
          · rintro m st ⟨k, rfl, hk, rfl⟩
            have hp := posS_le s (i + k) (by omega)
            conv => whnf
            refine branch_of (fun h => ?_) (fun h => ?_)
            · have h := of_decide_eq_true h
              have hk' : i + k < s.length := by omega
              have hw0 : IntKind.i64.wrap ((i : Int) + (k : Int)) = (i + k : Nat) := by rw [wr (by omega) (by omega)]; omega
              have hpos := posS_snoc s hk'
              have hw1 : IntKind.i64.wrap ((posS (s.take (i + k))).2 + 1) = (posS (s.take (i + k))).2 + 1 := wr (by omega) (by omega)
              have hw2 : IntKind.i64.wrap ((posS (s.take (i + k))).1 + 1) = (posS (s.take (i + k))).1 + 1 := wr (by omega) (by omega)
              have hw4 : IntKind.i64.wrap ((k : Int) + 1) = (k + 1 : Nat) := by rw [wr (by omega) (by omega)]; rfl
              conv => whnf
              refine ⟨s[i + k], idx hk' hw0, ?_⟩
              conv => whnf
              refine branch_of (fun h => ?_) (fun h => ?_)
              · have h := of_decide_eq_true h
                rw [if_pos (by omega)] at hpos
                conv => whnf
                refine ⟨n - (k + 1), by omega, k + 1, rfl, by omega, ?_⟩
                rw [hw2, hw4, ← Nat.add_assoc, hpos]
              · have h := of_decide_eq_false h
                rw [if_neg (by omega)] at hpos
                conv => whnf
                refine ⟨n - (k + 1), by omega, k + 1, rfl, by omega, ?_⟩
                rw [hw1, hw4, ← Nat.add_assoc, hpos]
            · have h := of_decide_eq_false h
              have : k = n := by omega
              subst this
              conv => whnf
        rintro st rfl
        conv => whnf
        have hw0 : IntKind.i64.wrap ((i : Int) + (n : Int)) = (i + n : Nat) := by rw [wr (by omega) (by omega)]; omega
        refine ⟨s.length - (i + n), by omega, i + n, f, acc, rfl, hn, hf, hacc, he, ?_⟩
        rw [hw0]
    · have h := of_decide_eq_false h
      have hd : s.drop i = [] := List.drop_eq_nil_iff.2 (by omega)
      have hg : toksGo s f (i + blanksN false (s.drop i)) = ([], none) := by
        cases f with
        | zero => rfl
        | succ f => rw [toksGo, if_neg (by omega)]
      rw [hg, List.append_nil] at he
      conv => whnf
      refine ⟨by kernel_rfl, ?_⟩
      conv => whnf
      refine fin0 ?_ trivial
      simp [toksR, errR, posR, he]
end Go.PV
namespace Go.PV
open Go Go.Proofs
set_option maxRecDepth 100000
theorem plainB_in (c : UInt8) : plainB c = decide ((32 : Int) ≤ (c.toNat : Int) ∧ (c.toNat : Int) ≤ 126) := by
  unfold plainB inB
  rw [Bool.eq_iff_iff]; simp; omega
/-- the page's right value -/
theorem refValue_good (v : Val) (hs : v.s.length ≤ 1000000) : Good Tryz.prog 43 [.agg v.c] [] [.bool (checkS v)] [] := by
  obtain ⟨k, n, s⟩ := v
  dsimp only at hs
  refine good_of hP Tryz.func43 (by kernel_rfl) (lv := [0, 1, 2, 3, 5, 6, 17, 27, 37, 42, 51]) (js := []) ⟨rfl, rfl, rfl, rfl, rfl, rfl, _, rfl, ?_⟩
  unfold checkS
  dsimp only
  conv => whnf
  refine branch_of (fun h => ?_) (fun h => ?_)
  · have h : k = 1 := of_decide_eq_true h
    rw [if_pos h]
    conv => whnf
    refine call0 (in_good n (-4611686018427387904) 4611686018427387904) ?_
    unfold inR
    refine branch_of (fun h2 => ?_) (fun h2 => ?_)
    · rw [h2]
      conv => whnf
      have e : decide ((s.length : Int) = 0) = decide (s = []) := by
        rw [decide_eq_decide]; constructor
        · intro e; exact List.eq_nil_of_length_eq_zero (by omega)
        · intro e; subst e; rfl
      exact fin0 (by rw [Bool.true_and, ← e]) trivial
    · rw [h2]
      conv => whnf
      exact fin0 rfl trivial
  have h : ¬ k = 1 := of_decide_eq_false h
  rw [if_neg h]
  conv => whnf
  refine branch_of (fun h3 => ?_) (fun h3 => ?_)
  · have h3 : k = 2 := of_decide_eq_true h3
    rw [if_pos h3]
    conv => whnf
    refine branch_of (fun h4 => ?_) (fun h4 => ?_)
    · rw [h4]
      conv => whnf
      refine call0 (word_good s false hs) ?_
      rw [symbol_word]
      conv => whnf
      exact fin0 rfl trivial
    · rw [h4]
      conv => whnf
      exact fin0 rfl trivial
  have h3 : ¬ k = 2 := of_decide_eq_false h3
  rw [if_neg h3]
  conv => whnf
  refine branch_of (fun h5 => ?_) (fun h5 => ?_)
  · have h5 : k = 3 := of_decide_eq_true h5
    rw [if_pos h5]
    conv => whnf
    refine branch_of (fun h6 => ?_) (fun h6 => ?_)
    · rw [Bool.not_eq_true'] at h6
      rw [h6]
      conv => whnf
      exact fin0 rfl trivial
    rw [Bool.not_eq_false'] at h6
    rw [h6, Bool.true_and]
    conv => whnf
    refine branch_of (fun h7 => ?_) (fun h7 => ?_)
    · have h7 := of_decide_eq_true h7
      dsimp only at h7
      conv => whnf
      exact fin0 (by unfold plainS; rw [decide_eq_false (by omega), Bool.and_false]) trivial
    have h7 := of_decide_eq_false h7
    dsimp only at h7
    have e : plainS s = s.all plainB := by unfold plainS; rw [decide_eq_true (by omega), Bool.and_true]
    rw [e]
    conv => whnf
    refine loop_of hP [0, 1, 2, 3, 5, 6, 17, 27, 37, 42, 51] [] [1, 2, 3] [65] [] (fun m st => ∃ i : Nat, m = s.length - i ∧ i ≤ s.length ∧ s.all plainB = (s.drop i).all plainB ∧ st = ⟨[(1, .ptr 65 0 0), (2, .bool false), (3, .int .i64 i)], [(65, .box 0 (Val.c ⟨k, n, s⟩))]⟩) s.length ?_ ?_
    · conv => whnf
      exact ⟨0, rfl, Nat.zero_le _, rfl, rfl⟩
    · rintro m st ⟨i, rfl, hi, he, rfl⟩
      conv => whnf
      refine branch_of (fun h8 => ?_) (fun h8 => ?_)
      · have h8 := of_decide_eq_true h8
        have hi' : i < s.length := by dsimp only at h8; omega
        conv => whnf
        refine ⟨s[i], idx hi' rfl, ?_⟩
        conv => whnf
        have hw : IntKind.i64.wrap (s[i].toNat : Int) = s[i].toNat := by have := s[i].toNat_lt; rw [wr (by omega) (by omega)]
        rw [hw]
        refine call0 (in_good s[i].toNat 32 126) ?_
        rw [← plainB_in]
        rw [all_drop hi'] at he
        cases hp : plainB s[i] with
        | false =>
          rw [hp, Bool.false_and] at he
          rw [he]
          conv => whnf
          exact fin0 rfl trivial
        | true =>
          rw [hp, Bool.true_and] at he
          conv => whnf
          refine ⟨s.length - (i + 1), by omega, i + 1, rfl, by omega, he, ?_⟩
          rw [wr (by omega) (by omega)]; rfl
      · have h8 := of_decide_eq_false h8
        have h9 : s.drop i = [] := List.drop_eq_nil_iff.2 (by dsimp only at h8; omega)
        rw [h9] at he
        rw [he]
        conv => whnf
        exact fin0 rfl trivial
  · have h5 : ¬ k = 3 := of_decide_eq_false h5
    rw [if_neg h5]
    conv => whnf
    exact fin0 rfl trivial
/-- the page's right expression -/
theorem refExpr_good (l : List Stp) (hb : opsB l) : Good Tryz.prog 25 [.sl 5 (stpV l)] [] [.bool (exprOk l)] [] := by
  obtain ⟨hl, ho⟩ := hb
  refine good_of hP Tryz.func25 (by kernel_rfl) (lv := [0, 2, 3, 4, 5, 9, 13, 21, 22, 33, 36, 47, 50, 67]) (js := [50]) ⟨rfl, rfl, rfl, rfl, rfl, rfl, _, rfl, ?_⟩
  conv => whnf
  refine call0 (in_good (stpV l).length 1 15) ?_
  rw [List.length_map]
  cases hle : decide ((1 : Int) ≤ (l.length : Int) ∧ (l.length : Int) ≤ 15) with
  | false =>
    have h := of_decide_eq_false hle
    have e : exprOk l = false := by unfold exprOk; rw [decide_eq_false (by omega), Bool.false_and]
    rw [e]
    conv => whnf
    exact fin0 rfl trivial
  | true =>
  have h := of_decide_eq_true hle
  have e : exprOk l = decide (depGo 0 l = some 1) := by
    have : decide (1 ≤ l.length ∧ l.length ≤ 15) = true := by simp; omega
    rw [exprOk, this, Bool.true_and]
  rw [e]
  conv => whnf
  refine loop_of hP [0, 2, 3, 4, 5, 9, 13, 21, 22, 33, 36, 47, 50, 67] [50] [0, 2, 3, 4] [] [] (fun n st => ∃ k d : Nat, n = l.length - k ∧ k ≤ l.length ∧ d ≤ k ∧ depGo 0 l = depGo d (l.drop k) ∧ st = ⟨[(0, .sl 5 (stpV l)), (2, .bool false), (3, .int .i64 d), (4, .int .i64 k)], []⟩) l.length ?_ ?_
  · conv => whnf
    exact ⟨0, 0, rfl, Nat.zero_le _, Nat.le_refl _, rfl, rfl⟩
  · rintro n st ⟨k, d, rfl, hk, hd, he, rfl⟩
    conv => whnf
    refine branch_of (fun h3 => ?_) (fun h3 => ?_)
    · have h3 := of_decide_eq_true h3
      rw [List.length_map] at h3
      have hk' : k < l.length := by omega
      rw [List.drop_eq_getElem_cons hk', depGo] at he
      conv => whnf
      refine ⟨Stp.c l[k], idxM hk' rfl, ?_⟩
      conv => whnf
      obtain ⟨b1, b2⟩ := ho _ (List.getElem_mem hk')
      generalize l[k] = o at *
      obtain ⟨ok, ov, ox⟩ := o
      dsimp only at b1 b2 he
      unfold stpOk at he
      dsimp only at he
      refine branch_of (fun g1 => ?_) (fun g1 => ?_)
      · have g1 : ok = 1 := of_decide_eq_true g1
        rw [if_pos g1] at he
        conv => whnf
        refine call0 (word_good ov true b1) ?_
        have ev : varS ov = refWordS true ov := rfl
        rw [← ev]
        cases hv : varS ov with
        | false =>
          rw [hv, Bool.false_and, if_neg (by simp)] at he
          rw [he]
          conv => whnf
          exact fin0 rfl trivial
        | true =>
          rw [hv, Bool.true_and] at he
          conv => whnf
          refine ⟨_, (eqVal ox zeroV).2, ?_⟩
          conv => whnf
          by_cases hz : ox = zeroV
          · rw [decide_eq_true hz] at he ⊢
            rw [if_pos rfl, if_pos (by omega)] at he
            conv => whnf
            refine ⟨l.length - (k + 1), by omega, k + 1, d + 1, rfl, by omega, by omega, he, ?_⟩
            rw [wr (by omega) (by omega), wr (by omega) (by omega)]; rfl
          · rw [decide_eq_false hz] at he ⊢
            rw [if_neg (by simp)] at he
            rw [he]
            conv => whnf
            exact fin0 rfl trivial
      have g1 : ¬ ok = 1 := of_decide_eq_false g1
      rw [if_neg g1] at he
      conv => whnf
      refine branch_of (fun g2 => ?_) (fun g2 => ?_)
      · have g2 : ok = 2 := of_decide_eq_true g2
        rw [if_pos g2] at he
        conv => whnf
        refine branch_of (fun g3 => ?_) (fun g3 => ?_)
        · have g3 := of_decide_eq_true g3
          have : ov ≠ [] := by rintro rfl; exact absurd g3 (show ¬ (0 : Int) < 0 by omega)
          rw [decide_eq_false this, Bool.false_and, if_neg (by simp)] at he
          rw [he]
          conv => whnf
          exact fin0 rfl trivial
        have g3 := of_decide_eq_false g3
        have hov : ov = [] := List.eq_nil_of_length_eq_zero (by dsimp only at g3; omega)
        rw [decide_eq_true hov, Bool.true_and] at he
        conv => whnf
        refine call0 (refValue_good ox b2) ?_
        cases hc : checkS ox with
        | false =>
          rw [hc, if_neg (by simp)] at he
          rw [he]
          conv => whnf
          exact fin0 rfl trivial
        | true =>
          rw [hc, if_pos rfl, if_pos (by omega)] at he
          conv => whnf
          refine ⟨l.length - (k + 1), by omega, k + 1, d + 1, rfl, by omega, by omega, he, ?_⟩
          rw [wr (by omega) (by omega), wr (by omega) (by omega)]; rfl
      have g2 : ¬ ok = 2 := of_decide_eq_false g2
      rw [if_neg g2] at he
      conv => whnf
      refine seq_of hP [0, 2, 3, 4, 5, 9, 13, 21, 22, 33, 36, 47, 50, 67] [50] [0, 2, 3, 4, 5, 50] [69] [] (fun st => st = ⟨[(0, .sl 5 (stpV l)), (2, .bool false), (3, .int .i64 d), (4, .int .i64 k), (5, .ptr 69 0 0), (50, .bool (decide (ok = 3 ∨ ok = 4 ∨ ok = 5)))], [(69, .box 0 (Stp.c ⟨ok, ov, ox⟩))]⟩) ?_ ?_
      · conv => whnf
        refine branch_of (fun g4 => ?_) (fun g4 => ?_)
        · have h4 : ok = 3 := of_decide_eq_true g4
          conv => whnf
          have e : decide (ok = 3 ∨ ok = 4 ∨ ok = 5) = true := by rw [decide_eq_true_iff]; omega
          rw [e, g4]
        have h4 : ¬ ok = 3 := of_decide_eq_false g4
        conv => whnf
        refine branch_of (fun g5 => ?_) (fun g5 => ?_)
        · have h5 : ok = 4 := of_decide_eq_true g5
          conv => whnf
          have e : decide (ok = 3 ∨ ok = 4 ∨ ok = 5) = true := by rw [decide_eq_true_iff]; omega
          rw [e, g5]
        have h5 : ¬ ok = 4 := of_decide_eq_false g5
        conv => whnf
        have e : decide (ok = 3 ∨ ok = 4 ∨ ok = 5) = decide (ok = 5) := by rw [decide_eq_decide]; omega
        rw [e]
      rintro st rfl
      by_cases h6 : ok = 3 ∨ ok = 4 ∨ ok = 5
      · rw [if_pos h6] at he
        rw [decide_eq_true h6]
        conv => whnf
        refine branch_of (fun g3 => ?_) (fun g3 => ?_)
        · have g3 := of_decide_eq_true g3
          have : ov ≠ [] := by rintro rfl; exact absurd g3 (show ¬ (0 : Int) < 0 by omega)
          rw [decide_eq_false this, Bool.false_and, if_neg (by simp)] at he
          rw [he]
          conv => whnf
          exact fin0 rfl trivial
        have g3 := of_decide_eq_false g3
        have hov : ov = [] := List.eq_nil_of_length_eq_zero (by dsimp only at g3; omega)
        rw [decide_eq_true hov, Bool.true_and] at he
        conv => whnf
        refine ⟨_, (eqVal ox zeroV).2, ?_⟩
        conv => whnf
        by_cases hz : ox = zeroV
        · rw [decide_eq_true hz] at he ⊢
          rw [if_pos rfl, if_neg (by omega)] at he
          conv => whnf
          refine branch_of (fun g6 => ?_) (fun g6 => ?_)
          · have g6 := of_decide_eq_true g6
            rw [if_pos (by omega)] at he
            rw [he]
            conv => whnf
            exact fin0 rfl trivial
          · have g6 := of_decide_eq_false g6
            rw [if_neg (by omega)] at he
            conv => whnf
            refine ⟨l.length - (k + 1), by omega, k + 1, d - 1, rfl, by omega, by omega, he, ?_⟩
            rw [wr (by omega) (by omega), wr (by omega) (by omega)]
            have e1 : (d : Int) - 1 = (d - 1 : Nat) := by omega
            rw [e1]; rfl
        · rw [decide_eq_false hz] at he ⊢
          rw [if_neg (by simp)] at he
          rw [he]
          conv => whnf
          exact fin0 rfl trivial
      · rw [if_neg h6, if_neg (by simp)] at he
        rw [decide_eq_false h6, he]
        conv => whnf
        exact fin0 rfl trivial
    · have h3 := of_decide_eq_false h3
      rw [List.length_map] at h3
      have hd2 : l.drop k = [] := List.drop_eq_nil_iff.2 (by omega)
      rw [hd2, depGo] at he
      rw [he]
      conv => whnf
      exact fin0 (by simp; omega) trivial
end Go.PV
namespace Go.PV
open Go Go.Proofs
set_option maxRecDepth 100000
theorem take_rev {l : List Stp} {i : Nat} (h : i < l.length) : (l.take (i + 1)).reverse = l[i] :: (l.take i).reverse := by
  rw [List.take_add_one, List.getElem?_eq_getElem h]; simp
/-- where a part begins -/
theorem part_good (l : List Stp) (hb : opsB l) (hk : exprOk l = true) (m n : Nat) (hm : m < l.length) (hs : scan (l.take (m + 1)).reverse 1 = some n) :
    Good Tryz.prog 26 [.sl 5 (stpV l), .int .i64 m] [] [.int .i64 ((m : Int) + 1 - n)] [] := by
  have hl := hb.1
  refine good_of hP Tryz.func26 (by kernel_rfl) (lv := [0, 1, 4, 5, 6, 19, 28, 34]) (js := []) ⟨rfl, rfl, rfl, rfl, rfl, rfl, _, rfl, ?_⟩
  conv => whnf
  refine call0 (xcheck_good l hb) ?_
  rw [hk, if_pos rfl]
  conv => whnf
  refine branch_of (fun h2 => ?_) (fun h2 => ?_)
  · have h2 := of_decide_eq_true h2
    rw [List.length_map] at h2; omega
  conv => whnf
  refine loop_of hP [0, 1, 4, 5, 6, 19, 28, 34] [] [0, 4, 5, 6] [] [] (fun x st => ∃ d i r : Nat, x = i ∧ i ≤ m ∧ 1 ≤ d ∧ d ≤ m + 1 - i ∧ scan (l.take (i + 1)).reverse d = some r ∧ n = r + (m - i) ∧ st = ⟨[(0, .sl 5 (stpV l)), (4, .int .i64 0), (5, .int .i64 d), (6, .int .i64 i)], []⟩) m ?_ ?_
  · conv => whnf
    exact ⟨1, m, n, rfl, Nat.le_refl _, Nat.le_refl _, by omega, hs, by omega, rfl⟩
  · rintro x st ⟨d, i, r, rfl, hi, hd, hd2, he, hn, rfl⟩
    conv => whnf
    have hi' : x < l.length := by omega
    refine ⟨Stp.c l[x], idxM hi' rfl, ?_⟩
    conv => whnf
    refine call0 (pushes_good l[x].k) ?_
    rw [take_rev hi', scan] at he
    unfold pushB at he
    cases hp : decide (l[x].k = 1 ∨ l[x].k = 2) with
    | true =>
      rw [hp, if_pos rfl] at he
      conv => whnf
      have e1 : IntKind.i64.wrap ((d : Int) - 1) = ((d - 1 : Nat) : Int) := by rw [wr (by omega) (by omega)]; omega
      rw [e1]
      refine branch_of (fun g => ?_) (fun g => ?_)
      · have g := of_decide_eq_true g
        rw [if_pos (by omega)] at he
        have := Option.some.inj he
        conv => whnf
        exact fin0 (by congr 2; omega) trivial
      · have g := of_decide_eq_false g
        rw [if_neg (by omega)] at he
        obtain ⟨r', hr', rfl⟩ := Option.map_eq_some_iff.1 he
        cases x with
        | zero => rw [List.take_zero] at hr'; cases hr'
        | succ y =>
        conv => whnf
        refine ⟨y, by omega, d - 1, y, r', rfl, by omega, by omega, by omega, by rw [← hr']; congr 1; omega, by omega, ?_⟩
        rw [wr (by omega) (by omega)]
        have e2 : ((y + 1 : Nat) : Int) - 1 = y := by omega
        rw [e2]
    | false =>
      rw [hp] at he
      simp only [Bool.false_eq_true, if_false] at he
      rw [if_neg (by omega)] at he
      obtain ⟨r', hr', rfl⟩ := Option.map_eq_some_iff.1 he
      cases x with
      | zero => rw [List.take_zero] at hr'; cases hr'
      | succ y =>
      conv => whnf
      have e1 : IntKind.i64.wrap ((d : Int) + 1) = ((d + 1 : Nat) : Int) := by rw [wr (by omega) (by omega)]; omega
      rw [e1]
      conv => whnf
      refine ⟨y, by omega, d + 1, y, r', rfl, by omega, by omega, by omega, by rw [← hr']; congr 1, by omega, ?_⟩
      rw [wr (by omega) (by omega)]
      have e2 : ((y + 1 : Nat) : Int) - 1 = y := by omega
      rw [e2]
end Go.PV
namespace Go.PV
open Go Go.Proofs
set_option maxRecDepth 100000
theorem leaf_atom (t : Trm) (h : termOk t = true) : atomOk ⟨[112], [t]⟩ = true ∧ atomT ⟨[112], [t]⟩ = [112, 40] ++ termT t ++ [41] := by
  constructor
  · have e : nameS [112] = true := by decide +kernel
    unfold atomOk
    show (nameS [112] && decide ((1 : Nat) ≤ 5) && (termOk t && true)) = true
    rw [h, e]; rfl
  · unfold atomT atomK
    simp [weaveK, argsK, tailK, termK_T]
theorem leaf_last {l : List Stp} {t : Trm} (h : (Tree.leaf t).ops = l) (hi : (Tree.leaf t).size - 1 < l.length) : l[(Tree.leaf t).size - 1] = ⟨if t.v = [] then 2 else 1, t.v, t.x⟩ := by
  subst h; rfl
theorem node_last {l : List Stp} {k : Int} {a b : Tree} (h : (Tree.node k a b).ops = l) (hi : (Tree.node k a b).size - 1 < l.length) : l[(Tree.node k a b).size - 1] = ⟨k, [], zeroV⟩ := by
  subst h
  have e : (Tree.node k a b).size - 1 = (a.ops ++ b.ops).length := by rw [List.length_append, Tree.ops_len, Tree.ops_len]; simp [Tree.size]
  simp only [Tree.ops, e]
  rw [List.getElem_append_right (Nat.le_refl _)]
  simp
theorem node_scan {l : List Stp} {k : Int} {a b : Tree} (h : (Tree.node k a b).ops = l) (hb : b.ok = true) : scan (l.take (a.size + b.size - 1 + 1)).reverse 1 = some b.size := by
  subst h
  have := b.deep_size
  have e : a.size + b.size - 1 + 1 = (a.ops ++ b.ops).length := by rw [List.length_append, Tree.ops_len, Tree.ops_len]; omega
  rw [e, Tree.ops, List.take_left, List.reverse_append, Tree.scan_ops hb _ _ (by omega), if_pos rfl]
theorem atomsNested_good (l : List Stp) (_ : l.length ≤ maxLen) {p3 : Stp → Prop} (_ : ∀ v ∈ l, p3 v) :
    Good Tryz.prog 8 [.sl 5 (stpV l)] [] [.bool true] [] := by
  refine good_of hP Tryz.func8 (by kernel_rfl) (lv := [0, 2, 3, 4, 5, 6, 7, 8, 9, 10, 11, 12, 19, 29, 35, 75]) (js := []) ⟨rfl, rfl, rfl, rfl, rfl, rfl, _, rfl, ?_⟩
  conv => whnf
  refine call0 (heavyX_good l) ?_
  cases hx : opsH l with
  | true =>
    conv => whnf
    exact fin0 rfl trivial
  | false =>
  have hb := opsH_B hx
  conv => whnf
  refine call0 (refExpr_good l hb) ?_
  cases hk : exprOk l with
  | false =>
    conv => whnf
    exact fin0 rfl trivial
  | true =>
  conv => whnf
  refine call0 (exprText_good l hb) ?_
  rw [hk, if_pos rfl, if_pos rfl]
  have hxl := exprT_len hk
  obtain ⟨T, hT, hTl, hT5⟩ := Tree.of_ok hk
  have hlen : l.length = T.size := by rw [← hTl, Tree.ops_len]
  have hE : exprT l = T.txt := by rw [← hTl, Tree.exprT_ops hT]
  have hs1 : 1 ≤ T.size := by have := T.deep_size; omega
  rw [hE] at hxl ⊢
  conv => whnf
  rw [List.length_map, hlen, wr (by omega) (by omega)]
  have e1 : (T.size : Int) - 1 = ((T.size - 1 : Nat) : Int) := by omega
  rw [e1]
  have hi : T.size - 1 < l.length := by omega
  refine ⟨Stp.c l[T.size - 1], idxM hi rfl, ?_⟩
  conv => whnf
  cases T with
  | leaf t =>
    have hT : termOk t = true := hT
    rw [leaf_last hTl hi]
    refine branch_of (fun g => ?_) (fun g => ?_)
    · conv => whnf
      obtain ⟨la, lt⟩ := leaf_atom t hT
      have hrow : (0 : Int) ≤ (((Tree.leaf t).size - 1 : Nat) : Int) ∧ (stpV l)[((((Tree.leaf t).size - 1 : Nat) : Int)).toNat]? = some (Stp.c ⟨if t.v = [] then 2 else 1, t.v, t.x⟩) := by
        rw [← leaf_last hTl hi]; exact idxM hi rfl
      refine ⟨Stp.c _, hrow, ?_⟩
      conv => whnf
      refine ⟨Stp.c _, hrow, ?_⟩
      conv => whnf
      obtain ⟨tl1, tl2⟩ : t.v.length ≤ 1000000 ∧ t.x.s.length ≤ 1000000 := by
        have := hb.2 _ (by rw [← hTl]; exact List.mem_singleton.2 rfl : (⟨if t.v = [] then 2 else 1, t.v, t.x⟩ : Stp) ∈ l)
        exact this
      refine call0 (atomText_good ⟨[112], [t]⟩ ⟨by show (1 : Nat) ≤ 1000000; omega, by show (1 : Nat) ≤ 1000000; omega, fun q hq => by rw [List.mem_singleton.1 hq]; exact ⟨tl1, tl2⟩⟩) ?_
      rw [la, if_pos rfl, if_pos rfl, lt]
      have ht : (Tree.leaf t).txt = termT t := rfl
      rw [ht] at hxl ⊢
      conv => whnf
      refine ⟨by kernel_rfl, ?_⟩
      conv => whnf
      refine ⟨⟨⟩, by show 2 + (termT t).length ≤ 9223372036854775807; omega, ?_⟩
      conv => whnf
      refine ⟨⟨⟩, by show (([112, 40] : Bs) ++ termT t).length + 1 ≤ 9223372036854775807; rw [List.length_append, List.length_cons, List.length_cons, List.length_nil]; omega, ?_⟩
      conv => whnf
      have e2 : decide ([112, 40] ++ termT t ++ [41] = [112, 40] ++ termT t ++ [41]) = true := decide_eq_true rfl
      refine branch_of (fun h5 => ?_) (fun h5 => ?_)
      · conv => whnf
        refine call0 (wakes10_good) ?_
        conv => whnf
        exact fin0 rfl trivial
      · exact absurd (e2.symm.trans h5) (by simp)
    · have g := of_decide_eq_false g
      exfalso; apply g; dsimp only; split <;> omega
  | node k a b =>
    simp only [Tree.ok, Bool.and_eq_true, decide_eq_true_eq] at hT
    obtain ⟨⟨hk3, ha⟩, hb'⟩ := hT
    rw [node_last hTl hi]
    refine branch_of (fun g => ?_) (fun g => ?_)
    · have g := of_decide_eq_true g
      dsimp only at g; omega
    conv => whnf
    have hsz : (Tree.node k a b).size = a.size + b.size + 1 := rfl
    have ha1 := a.deep_size
    have hb1 := b.deep_size
    rw [hsz, wr (by omega) (by omega)]
    have e2 : ((a.size + b.size + 1 - 1 : Nat) : Int) - 1 = ((a.size + b.size - 1 : Nat) : Int) := by omega
    rw [e2]
    conv => whnf
    refine call0 (part_good l hb hk (a.size + b.size - 1) b.size (by omega) (node_scan hTl hb')) ?_
    have e3 : ((a.size + b.size - 1 : Nat) : Int) + 1 - b.size = (a.size : Int) := by omega
    rw [e3]
    conv => whnf
    refine branch_of (fun g2 => ?_) (fun g2 => ?_)
    · have g2 := of_decide_eq_true g2; omega
    conv => whnf
    refine branch_of (fun g3 => ?_) (fun g3 => ?_)
    · have g3 := of_decide_eq_true g3; omega
    conv => whnf
    have hal : a.ops.length = a.size := Tree.ops_len a
    have hbl : b.ops.length = b.size := Tree.ops_len b
    have hka := Tree.to_ok ha (by omega)
    have hkb := Tree.to_ok hb' (by omega)
    have c1 : List.take ((a.size : Int)).toNat (stpV l) = stpV a.ops := by
      rw [← hTl, Int.toNat_natCast, ← List.map_take, Tree.ops, List.append_assoc, ← hal, List.take_left]
    have c2 : List.drop ((a.size : Int)).toNat (List.take ((a.size + b.size + 1 - 1 : Nat) : Int).toNat (stpV l)) = stpV b.ops := by
      have e : a.size + b.size + 1 - 1 = (a.ops ++ b.ops).length := by rw [List.length_append]; omega
      rw [← hTl, Int.toNat_natCast, Int.toNat_natCast, ← List.map_take, ← List.map_drop, Tree.ops, e, List.take_left, ← hal, List.drop_left]
    have mem : ∀ o, o ∈ a.ops ∨ o ∈ b.ops → o ∈ l := fun o h => by
      rw [← hTl, Tree.ops, List.mem_append, List.mem_append]; exact .inl h
    have hba : opsB a.ops := ⟨by omega, fun o h => hb.2 o (mem o (.inl h))⟩
    have hbb : opsB b.ops := ⟨by omega, fun o h => hb.2 o (mem o (.inr h))⟩
    have la := exprT_len hka
    have lb := exprT_len hkb
    rw [Tree.exprT_ops ha] at la
    rw [Tree.exprT_ops hb'] at lb
    refine ⟨⟨⟩, ⟨by omega, by rw [List.length_map]; omega⟩, ?_⟩
    conv => whnf
    rw [c1]
    refine call0 (exprText_good a.ops hba) ?_
    rw [hka, if_pos rfl, if_pos rfl, Tree.exprT_ops ha]
    conv => whnf
    refine ⟨⟨⟩, ⟨by omega, by omega, by rw [List.length_map]; omega⟩, ?_⟩
    conv => whnf
    rw [c2]
    refine call0 (exprText_good b.ops hbb) ?_
    rw [hkb, if_pos rfl, if_pos rfl, Tree.exprT_ops hb']
    conv => whnf
    generalize hx' : a.txt = x at *
    generalize hy' : b.txt = y at *
    refine ⟨⟨⟩, by show 1 + x.length ≤ 9223372036854775807; omega, ?_⟩
    conv => whnf
    refine ⟨⟨⟩, by show (([40] : Bs) ++ x).length + 1 ≤ 9223372036854775807; simp only [List.length_append, List.length_cons, List.length_nil]; omega, ?_⟩
    conv => whnf
    have hi2 : a.size + b.size + 1 - 1 < l.length := by omega
    have hrow : (0 : Int) ≤ ((a.size + b.size + 1 - 1 : Nat) : Int) ∧ (stpV l)[((a.size + b.size + 1 - 1 : Nat) : Int).toNat]? = some (Stp.c ⟨k, [], zeroV⟩) := by
      rw [← node_last hTl hi]; exact idxM hi rfl
    refine ⟨Stp.c _, hrow, ?_⟩
    have hnt : (Tree.node k a b).txt = [40] ++ x ++ [32] ++ opT k ++ [32] ++ y ++ [41] := by rw [← hx', ← hy']; rfl
    clear hTl hrow hlen hE hi hT5 hs1 e1
    generalize (Tree.node k a b).txt = z at *
    have ho1 : (opT k).length = 1 := by rcases hk3 with rfl | rfl | rfl <;> rfl
    obtain ⟨j, hj, hj3⟩ : ∃ j : Nat, k - 3 = j ∧ j < 3 := ⟨(k - 3).toNat, by omega, by omega⟩
    have hoL : j < ([[43], [45], [42]] : List Bs).length := hj3
    have hop : ([[43], [45], [42]] : List Bs)[j] = opT k := by
      rcases hk3 with rfl | rfl | rfl
      · obtain rfl : j = 0 := by omega
        rfl
      · obtain rfl : j = 1 := by omega
        rfl
      · obtain rfl : j = 2 := by omega
        rfl
    have hkw : IntKind.i64.wrap (Stp.k ⟨k, [], zeroV⟩ - 3) = (j : Int) := by rw [wr (by dsimp only; omega) (by dsimp only; omega)]; exact hj
    conv => whnf
    rw [hkw]
    refine ⟨⟨⟩, idxB (f := fun t => [V.str t]) hoL rfl, ?_⟩
    conv => whnf
    refine ⟨[.str (opT k)], by rw [← hop]; exact (idxM (f := fun t => [V.str t]) hoL rfl).2, ?_⟩
    conv => whnf
    generalize opT k = q at *
    refine ⟨⟨⟩, by show (([40] : Bs) ++ x ++ [32]).length + q.length ≤ 9223372036854775807; simp only [List.length_append, List.length_cons, List.length_nil]; omega, ?_⟩
    conv => whnf
    refine ⟨⟨⟩, by show (([40] : Bs) ++ x ++ [32] ++ q).length + 1 ≤ 9223372036854775807; simp only [List.length_append, List.length_cons, List.length_nil]; omega, ?_⟩
    conv => whnf
    refine ⟨⟨⟩, by show (([40] : Bs) ++ x ++ [32] ++ q ++ [32]).length + y.length ≤ 9223372036854775807; simp only [List.length_append, List.length_cons, List.length_nil]; omega, ?_⟩
    conv => whnf
    refine ⟨⟨⟩, by show (([40] : Bs) ++ x ++ [32] ++ q ++ [32] ++ y).length + 1 ≤ 9223372036854775807; simp only [List.length_append, List.length_cons, List.length_nil]; omega, ?_⟩
    conv => whnf
    have e4 : decide (z = [40] ++ x ++ [32] ++ q ++ [32] ++ y ++ [41]) = true := decide_eq_true hnt
    refine branch_of (fun h5 => ?_) (fun h5 => ?_)
    · conv => whnf
      refine call0 (wakes10_good) ?_
      conv => whnf
      exact fin0 rfl trivial
    · exact absurd (e4.symm.trans h5) (by simp)
end Go.PV
namespace Go.PV
open Go Go.RowKit
/-! an argument that can be read as data, as plain data -/
def cel (w : World) (b o : Nat) (u : Value) : Prop := w.cell? ⟨b, o, none⟩ = some u
def CellsW (w : World) (l : List V) (cs : List Value) : Prop := cs.length = l.length ∧ ∀ (j : Nat) (p : V), l[j]? = some p → ∃ u, cs[j]? = some u ∧ Sh (cel w) p u
theorem CellsW.one {w : World} {p : V} {u : Value} (h : Sh (cel w) p u) : CellsW w [p] [u] := ⟨rfl, fun j q hj => by
  cases j with
  | zero => simp at hj; subst hj; exact ⟨u, rfl, h⟩
  | succ j => simp at hj⟩
theorem CellsW.append {w : World} {l m : List V} {cs ds : List Value} (h : CellsW w l cs) (k : CellsW w m ds) : CellsW w (l ++ m) (cs ++ ds) := ⟨by simp [h.1, k.1], fun j p hj => by
  rcases Nat.lt_or_ge j l.length with hl | hl
  · rw [List.getElem?_append_left hl] at hj
    rw [List.getElem?_append_left (by rw [h.1]; exact hl)]; exact h.2 j p hj
  · rw [List.getElem?_append_right hl] at hj
    rw [List.getElem?_append_right (by rw [h.1]; exact hl), h.1]; exact k.2 _ p hj⟩
structure OpensV {α : Type} (n : Nat) (c : α → List V) (P : Program) (t : TypeId) (ok : α → Prop) : Prop where
  cells : P.cellsOf t = n
  len : ∀ v, (c v).length = n
  opens : ∀ {H : Type} {enc : TypeId × Value → H} {w : World} {base : Nat} {spare : Nat → Bool} {held : Bool} {fuel : Nat} {cs : List Value} {x : DataW H × List MemPlace},
    DataW.trod enc P w base spare held fuel t cs = some x → ∃ v, CellsW w (c v) cs ∧ ok v
section
variable {P : Program} {t : TypeId}
theorem OpensV.mono {α : Type} {n : Nat} {c : α → List V} {ok ok' : α → Prop} (h : OpensV n c P t ok) (hm : ∀ v, ok v → ok' v) : OpensV n c P t ok' :=
  ⟨h.cells, h.len, fun hx => by obtain ⟨v, h1, h2⟩ := h.opens hx; exact ⟨v, h1, hm v h2⟩⟩
theorem OpensV.int {k : IntKind} (hu : P.underlying t = some (.int k)) (hc : P.cellsOf t = 1) : OpensV 1 (fun n => [.int k n]) P t (fun n => (Lit.int k n).wf = true) :=
  ⟨hc, fun _ => rfl, fun hx => by obtain ⟨m, rfl, rfl, hw⟩ := DataW.trod_int hu hx; exact ⟨m, .one (.int _ _), hw⟩⟩
theorem OpensV.string (hu : P.underlying t = some .string) (hc : P.cellsOf t = 1) : OpensV 1 (fun s : List UInt8 => [.str s]) P t (fun s => s.length ≤ maxLen) :=
  ⟨hc, fun _ => rfl, fun hx => by obtain ⟨s, rfl, _, hw⟩ := DataW.trod_string hu hx; exact ⟨s.data.toList, .one (.str _), hw⟩⟩
theorem OpensV.bool (hu : P.underlying t = some .bool) (hc : P.cellsOf t = 1) : OpensV 1 (fun b => [.bool b]) P t (fun _ => True) :=
  ⟨hc, fun _ => rfl, fun hx => by obtain ⟨b, rfl, _⟩ := DataW.trod_bool hu hx; exact ⟨b, .one (.bool _), trivial⟩⟩
theorem OpensV.iso {α β : Type} {n : Nat} {c : α → List V} {ok : α → Prop} {f : β → α} (g : α → β) (hg : ∀ a, f (g a) = a) (h : OpensV n c P t ok) : OpensV n (fun b => c (f b)) P t (fun b => ok (f b)) :=
  ⟨h.cells, fun b => h.len (f b), fun hx => by
    obtain ⟨v, h1, h2⟩ := h.opens hx
    exact ⟨g v, by rw [hg]; exact h1, by rw [hg]; exact h2⟩⟩
/-- fields that lie side by side from off on -/
structure OpensVs {α : Type} (n : Nat) (c : α → List V) (P : Program) (fs : List Field) (off : Nat) (ok : α → Prop) : Prop where
  len : ∀ v, (c v).length = n
  opens : ∀ {H : Type} {enc : TypeId × Value → H} {w : World} {base : Nat} {spare : Nat → Bool} {held : Bool} {fuel : Nat} {cs : List Value},
    off + n = cs.length → (∀ (i : Nat) (f : Field), fs[i]? = some f → ∃ x, DataW.trod enc P w base spare held fuel f.type ((cs.drop f.offset).take (P.cellsOf f.type)) = some x) → ∃ v, CellsW w (c v) (cs.drop off) ∧ ok v
theorem OpensVs.one {α : Type} {n : Nat} {c : α → List V} {f : Field} {off : Nat} {ok : α → Prop} (ho : f.offset = off) (h : OpensV n c P f.type ok) : OpensVs n c P [f] off ok := by
  refine ⟨h.len, ?_⟩
  intro H enc w base spare held fuel cs hl hx
  obtain ⟨x, hx⟩ := hx 0 f rfl
  rw [ho, h.cells, List.take_of_length_le (by simp; omega)] at hx
  exact h.opens hx
theorem OpensVs.cons {α β : Type} {n m : Nat} {c : α → List V} {d : β → List V} {f : Field} {fs : List Field} {off : Nat} {ok : α → Prop} {ok' : β → Prop} (ho : f.offset = off) (h : OpensV n c P f.type ok) (h' : OpensVs m d P fs (off + n) ok') :
    OpensVs (n + m) (fun v : α × β => c v.1 ++ d v.2) P (f :: fs) off (fun v => ok v.1 ∧ ok' v.2) := by
  refine ⟨fun v => by rw [List.length_append, h.len, h'.len], ?_⟩
  intro H enc w base spare held fuel cs hl hx
  obtain ⟨x, hx0⟩ := hx 0 f rfl
  rw [ho, h.cells] at hx0
  obtain ⟨v, hv, ov⟩ := h.opens hx0
  obtain ⟨u, hu, ou⟩ := h'.opens (cs := cs) (by omega) (fun i g hg => hx (i + 1) g hg)
  refine ⟨(v, u), ?_, ov, ou⟩
  have := hv.append hu
  rwa [← List.drop_drop, List.take_append_drop] at this
theorem OpensV.struct {α : Type} {n : Nat} {c : α → List V} {fs : Array Field} {ok : α → Prop} (hu : P.underlying t = some (.struct fs)) (hc : P.cellsOf t = n) (h : OpensVs n c P fs.toList 0 ok) : OpensV n c P t ok := by
  refine ⟨hc, h.len, ?_⟩
  intro H enc w base spare held fuel cs x hx
  obtain ⟨xs, n, rfl, _, hl, hxl, hf⟩ := DataW.trod_struct hu hx
  have := h.opens (cs := cs) (enc := enc) (w := w) (base := base) (spare := spare) (held := held) (fuel := n) (by omega) (by
    intro i f hi
    have hi' : fs[i]? = some f := by simpa using hi
    have hlt : i < xs.length := by
      rw [hxl]
      exact (Array.getElem?_eq_some_iff.1 hi').1
    exact ⟨xs[i], by rw [hf i f hi', List.getElem?_eq_getElem hlt]⟩)
  simpa using this
theorem list_of {α : Type} {Q : Nat → α → Prop} : ∀ n : Nat, (∀ i, i < n → ∃ v, Q i v) → ∃ l : List α, l.length = n ∧ ∀ i v, l[i]? = some v → Q i v := by
  intro n
  induction n with
  | zero => intro _; exact ⟨[], rfl, fun i v h => by simp at h⟩
  | succ n ih =>
    intro h
    obtain ⟨l, hl, hq⟩ := ih (fun i hi => h i (by omega))
    obtain ⟨v, hv⟩ := h n (by omega)
    refine ⟨l ++ [v], by simp [hl], ?_⟩
    intro i u hu
    by_cases hi : i < l.length
    · rw [List.getElem?_append_left hi] at hu
      exact hq i u hu
    · rw [List.getElem?_append_right (by omega)] at hu
      have h0 : i - l.length = 0 := by
        by_cases h0 : i - l.length = 0
        · exact h0
        · rw [List.getElem?_eq_none (by simp; omega)] at hu; cases hu
      rw [h0] at hu
      simp at hu
      subst hu
      have : i = n := by omega
      subst this
      exact hv
theorem cell_spot {w : World} {a : Addr} {u : Value} (h : w.cell? a = some u) : a.spot = none := by
  unfold World.cell? at h
  split at h
  · cases hs : a.spot with
    | none => rfl
    | some s => rw [hs] at h; simp at h
  · cases h
/-- a slice that is read as data -/
theorem OpensV.row {α : Type} {n : Nat} {c : α → List V} {e : TypeId} {ok : α → Prop} (h : OpensV n c P e ok) (h0 : 0 < n) (hu : P.underlying t = some (.slice e))
    {H : Type} {enc : TypeId × Value → H} {w : World} {base : Nat} {spare : Nat → Bool} {held : Bool} {fuel : Nat} {cs : List Value} {x : DataW H × List MemPlace}
    (hx : DataW.trod enc P w base spare held fuel t cs = some x) : ∃ (l : List α) (A : Option Addr) (cap : Nat), cs = [.slice A l.length cap] ∧ Sh (cel w) (.sl n (l.map c)) (.slice A l.length cap) ∧ l.length ≤ cap ∧ cap ≤ maxLen ∧ ∀ v ∈ l, ok v := by
  rcases DataW.trod_slice hu hx with ⟨hcs, _⟩ | ⟨a, len, cap, elems, rest, m, rfl, hcs, _, hb, hl, hm, hlen, hel, _⟩
  · exact ⟨[], none, 0, hcs, .sl0 _ _ _, Nat.le_refl _, by unfold maxLen; omega, fun v hv => by simp at hv⟩
  · obtain ⟨l, hll, hq⟩ := list_of (Q := fun i v => ∃ cs, w.cells? base (a.add (i * P.cellsOf e)) (P.cellsOf e) = some cs ∧ CellsW w (c v) cs ∧ ok v) len (by
      intro i hi
      have h1 := hel i hi
      rw [List.getElem?_eq_getElem (by omega), Option.bind_eq_some_iff] at h1
      obtain ⟨cs, h2, h3⟩ := h1
      obtain ⟨v, h4, h5⟩ := h.opens h3
      exact ⟨v, cs, h2, h4, h5⟩)
    have hok : ∀ v ∈ l, ok v := by
      intro v hv
      obtain ⟨i, hi⟩ := List.getElem?_of_mem hv
      obtain ⟨_, _, _, h5⟩ := hq i v hi
      exact h5
    refine ⟨l, some a, cap, by rw [hll]; exact hcs, ?_, by omega, hm, hok⟩
    by_cases hz : l = []
    · subst hz; exact .sl0 _ _ _
    have at_ : ∀ (i : Nat) (v : α) (j : Nat) (p : V), l[i]? = some v → (c v)[j]? = some p → ∃ u, w.cell? ((a.add (i * n)).add j) = some u ∧ Sh (cel w) p u := by
      intro i v j p hi hj
      obtain ⟨cs, h2, h4, _⟩ := hq i v hi
      obtain ⟨_, h6, h7⟩ := World.cells?_some h2
      obtain ⟨u, h8, h9⟩ := h4.2 j p hj
      have hlt : j < P.cellsOf e := by rw [← h6]; exact (List.getElem?_eq_some_iff.1 h8).1
      have h10 := h7 j hlt
      rw [h.cells, h8] at h10
      exact ⟨u, h10, h9⟩
    have hsp : a.spot = none := by
      obtain ⟨v, r, rfl⟩ := List.exists_cons_of_ne_nil hz
      have h1 : 0 < (c v).length := by rw [h.len]; exact h0
      obtain ⟨u, h2, _⟩ := at_ 0 v 0 _ rfl (List.getElem?_eq_getElem h1)
      have := cell_spot h2
      simpa [Addr.add] using this
    obtain ⟨b, off, sp⟩ := a
    simp only at hsp
    subst hsp
    have hadd : ∀ i j : Nat, ((⟨b, off, none⟩ : Addr).add (i * n)).add j = ⟨b, off + i * n + j, none⟩ := fun i j => by
      rw [Addr.add_none, Addr.add_none]
    have hml : (l.map c).length = l.length := List.length_map _
    rw [← hml]
    refine .sl n (l.map c) b off cap (fun i j => (w.cell? ⟨b, off + i * n + j, none⟩).getD undef) h0 (fun i x hx => ?_) (by rw [hml]; omega) (fun i x j p hx hj => ?_) (fun i x j p hx hj => ?_)
    · rw [List.getElem?_map, Option.map_eq_some_iff] at hx
      obtain ⟨v, _, rfl⟩ := hx; exact h.len v
    · rw [List.getElem?_map, Option.map_eq_some_iff] at hx
      obtain ⟨v, hi, rfl⟩ := hx
      obtain ⟨u, h2, _⟩ := at_ i v j p hi hj
      rw [hadd] at h2
      show w.cell? _ = _
      rw [h2]; rfl
    · rw [List.getElem?_map, Option.map_eq_some_iff] at hx
      obtain ⟨v, hi, rfl⟩ := hx
      obtain ⟨u, h2, h3⟩ := at_ i v j p hi hj
      rw [hadd] at h2
      rw [h2]; exact h3
theorem OpensV.slice {α : Type} {n : Nat} {c : α → List V} {e : TypeId} {ok : α → Prop} (h : OpensV n c P e ok) (h0 : 0 < n) (hu : P.underlying t = some (.slice e)) (hc : P.cellsOf t = 1) : OpensV 1 (fun l : List α => [.sl n (l.map c)]) P t (fun l => l.length ≤ maxLen ∧ ∀ v ∈ l, ok v) :=
  ⟨hc, fun _ => rfl, fun hx => by
    obtain ⟨l, A, cap, rfl, h2, h3, h4, h5⟩ := h.row h0 hu hx
    exact ⟨l, .one h2, Nat.le_trans h3 h4, h5⟩⟩
/-- an argument that is a slice -/
theorem OpensV.arg {α : Type} {n : Nat} {c : α → List V} {e : TypeId} {ok : α → Prop} (h : OpensV n c P e ok) (h0 : 0 < n) (hu : P.underlying t = some (.slice e))
    {H : Type} {enc : TypeId × Value → H} {w : World} {r : Reach} {base b0 : Nat} {spare : Nat → Bool} {held : Bool} {v : Value} {x : DataW H} {ps : List MemPlace}
    (hv : Value.okWide P w r b0 t v) (hx : DataW.Trod enc P w base spare held t v x ps) : ∃ l : List α, Sh (cel w) (.sl n (l.map c)) v ∧ l.length ≤ maxLen ∧ ∀ v ∈ l, ok v := by
  obtain ⟨a, len, cap, rfl⟩ := Go.WideShapes.okWide_slice hu hv
  obtain ⟨fuel, hf⟩ := hx
  have hf' : DataW.trod enc P w base spare held fuel t [.slice a len cap] = some (x, ps) := hf
  obtain ⟨l, A, cp, h1, h2, h3, h4, h5⟩ := h.row h0 hu hf'
  cases h1
  exact ⟨l, h2, Nat.le_trans h3 h4, h5⟩
/-- an argument that is a struct -/
theorem OpensV.agg {α : Type} {n : Nat} {c : α → List V} {ok : α → Prop} (h : OpensV n c P t ok) {fs : Array Field} (hu : P.underlying t = some (.struct fs))
    {H : Type} {enc : TypeId × Value → H} {w : World} {r : Reach} {base b0 : Nat} {spare : Nat → Bool} {held : Bool} {v : Value} {x : DataW H} {ps : List MemPlace}
    (hv : Value.okWide P w r b0 t v) (hx : DataW.Trod enc P w base spare held t v x ps) : ∃ u cs, v = .agg ⟨cs⟩ ∧ CellsW w (c u) cs ∧ ok u := by
  obtain ⟨cs, rfl, _⟩ := Go.WideShapes.okWide_struct hu hv
  obtain ⟨fuel, hf⟩ := hx
  obtain ⟨u, h1, h2⟩ := h.opens hf
  exact ⟨u, cs.toList, rfl, h1, h2⟩
end
/-- what nothing owns -/
def G0 : Gh := { own := fun _ => ⟨none, none⟩, blk := fun _ => 0, cap := fun _ => 0, isnil := fun _ => false }
theorem sh0 {w : World} {p : V} {v : Value} (h : Sh (cel w) p v) : Sh (stab G0 w) p v := h.mono fun b o c hc => ⟨fun l hl => (by cases hl), hc⟩
theorem ra0 {w : World} {O : Tb} {p : V} {v : Value} (h : Sh (cel w) p v) : RA G0 w O p v := .cell _ _ (.sh _ _ (sh0 h))
theorem raAgg {w : World} {O : Tb} {l : List V} {cs : List Value} (h : CellsW w l cs) : RA G0 w O (.agg l) (.agg ⟨cs⟩) :=
  .agg _ _ ⟨by simpa using h.1, fun j p hj => by obtain ⟨u, h1, h2⟩ := h.2 j p hj; exact ⟨u, by simpa using h1, .sh _ _ (sh0 h2)⟩⟩
/-- pair by pair -/
inductive Each (R : V → Value → Prop) : List V → List Value → Prop
  | nil : Each R [] []
  | cons {p v ps vs} (h : R p v) (k : Each R ps vs) : Each R (p :: ps) (v :: vs)
theorem cellsOf {R : V → Value → Prop} : ∀ {ps : List V} {vs : List Value}, Each R ps vs → Cells R ps ⟨vs⟩
  | [], [], _ => ⟨rfl, fun j p hj => by simp at hj⟩
  | p :: ps, v :: vs, .cons h1 h2 => by
    have ih := cellsOf h2
    refine ⟨by have := ih.1; simp at this ⊢; omega, fun j q hj => ?_⟩
    cases j with
    | zero => simp at hj; subst hj; exact ⟨v, rfl, h1⟩
    | succ j => obtain ⟨c, h3, h4⟩ := ih.2 j q (by simpa using hj); exact ⟨c, by simpa using h3, h4⟩
/-- a law's call -/
theorem law_calls {P : Program} [Env P] {f : FuncId} {args : List V} {vs : List Value} {w : World} (h : Good P f args [] [.bool true] []) (hc : Each (RA G0 w (tbl [])) args vs) (hn : Env.ng P ≤ w.heap.size) (hz : Env.Z P w) :
    Calls P f ⟨vs⟩ w fun e w' => e = .returned (.bool true) ∧ Below w.heap.size w w' :=
  (h.run ⟨vs⟩ w G0 (cellsOf hc) (fun k o hk => by simp at hk) (fun k hk => ⟨by omega, rfl⟩) hz).mono fun e w' hh => by
    obtain ⟨rv, G', h1, h2, _, h3⟩ := hh
    refine ⟨?_, ⟨h3.sys, h3.tape, h3.output, h3.size, fun k hk => (h3.im k hk rfl).2⟩⟩
    rw [h1]
    cases (show RA G' w' (tbl []) (.bool true) rv from h2).bool_eq
    rfl
end Go.PV
namespace Go.PV
open Go Go.RowKit Go.Proofs
/-! what is known of arguments of these types -/
def ok3 : Int → Prop := fun n : Int => (Lit.int .i64 n).wf = true
abbrev c3 : Int → List V := fun n => [.int .i64 n]
theorem o3 : OpensV 1 c3 Tryz.prog 3 ok3 := OpensV.int Tryz.underlying3 (by kernel_rfl)
def ok9 : List UInt8 → Prop := fun s : List UInt8 => s.length ≤ maxLen
abbrev c9 : List UInt8 → List V := fun s => [.str s]
theorem o9 : OpensV 1 c9 Tryz.prog 9 ok9 := OpensV.string Tryz.underlying9 (by kernel_rfl)
theorem t59 : OpensV 3 (fun v : Int × Int × List UInt8 => c3 v.1 ++ (c3 v.2.1 ++ (c9 v.2.2))) Tryz.prog 59 (fun v => ok3 v.1 ∧ ok3 v.2.1 ∧ ok9 v.2.2) := by
  refine OpensV.struct Tryz.underlying59 (by kernel_rfl) ?_
  refine OpensVs.cons (n := 1) (m := 2) (c := c3) (d := fun w : Int × List UInt8 => c3 w.1 ++ (c9 w.2)) (ok := ok3) (ok' := fun w : Int × List UInt8 => ok3 w.1 ∧ ok9 w.2) rfl o3 ?_
  refine OpensVs.cons (n := 1) (m := 1) (c := c3) (d := fun w : List UInt8 => c9 w) (ok := ok3) (ok' := fun w : List UInt8 => ok9 w) rfl o3 ?_
  exact OpensVs.one (c := c9) (ok := ok9) rfl o9
def ok59 : Val → Prop := fun x => let v := ((fun v => (v.k, v.n, v.s) : Val → (Int × Int × List UInt8))) x; ok3 v.1 ∧ ok3 v.2.1 ∧ ok9 v.2.2
abbrev c59 : Val → List V := fun x => let v := ((fun v => (v.k, v.n, v.s) : Val → (Int × Int × List UInt8))) x; c3 v.1 ++ (c3 v.2.1 ++ (c9 v.2.2))
theorem o59 : OpensV 3 c59 Tryz.prog 59 ok59 := OpensV.iso (f := (fun v => (v.k, v.n, v.s) : Val → (Int × Int × List UInt8))) ((fun a => ⟨a.1, a.2.1, a.2.2⟩ : (Int × Int × List UInt8) → Val)) (fun _ => rfl) t59
theorem t64 : OpensV 5 (fun v : Int × List UInt8 × Val => c3 v.1 ++ (c9 v.2.1 ++ (c59 v.2.2))) Tryz.prog 64 (fun v => ok3 v.1 ∧ ok9 v.2.1 ∧ ok59 v.2.2) := by
  refine OpensV.struct Tryz.underlying64 (by kernel_rfl) ?_
  refine OpensVs.cons (n := 1) (m := 4) (c := c3) (d := fun w : List UInt8 × Val => c9 w.1 ++ (c59 w.2)) (ok := ok3) (ok' := fun w : List UInt8 × Val => ok9 w.1 ∧ ok59 w.2) rfl o3 ?_
  refine OpensVs.cons (n := 1) (m := 3) (c := c9) (d := fun w : Val => c59 w) (ok := ok9) (ok' := fun w : Val => ok59 w) rfl o9 ?_
  exact OpensVs.one (c := c59) (ok := ok59) rfl o59
def ok64 : Stp → Prop := fun x => let v := ((fun v => (v.k, v.v, v.x) : Stp → (Int × List UInt8 × Val))) x; ok3 v.1 ∧ ok9 v.2.1 ∧ ok59 v.2.2
abbrev c64 : Stp → List V := fun x => let v := ((fun v => (v.k, v.v, v.x) : Stp → (Int × List UInt8 × Val))) x; c3 v.1 ++ (c9 v.2.1 ++ (c59 v.2.2))
theorem o64 : OpensV 5 c64 Tryz.prog 64 ok64 := OpensV.iso (f := (fun v => (v.k, v.v, v.x) : Stp → (Int × List UInt8 × Val))) ((fun a => ⟨a.1, a.2.1, a.2.2⟩ : (Int × List UInt8 × Val) → Stp)) (fun _ => rfl) t64
end Go.PV
namespace Go.PV
open Go
/-! a row's closed facts, one by one -/
theorem joined_of {P : Program} {f : FuncId} {fn : Func} {s : ChangeSpec} {c : OpenClaim} (h1 : c.wf (OpenSpec.ofChange s) = true) (h2 : laidOutB P = true) (h3 : mapsRowed P = true) (h4 : namedTie P c.named s.vars = true)
    (h5 : (P.stops == []) = true) (h6 : (P.stopKnobs == []) = true) (h7 : (c.inPlace == P.inPlace f) = true) (h8 : (c.unfollowed == P.unfollowed f) = true) (h9 : (c.recurses == P.recurses f) = true) (h10 : (c.named == P.varsNamed f) = true)
    (h11 : (c.plainKeys == P.plainKeys) = true) (h12 : P.stopsHeard = true) (h13 : P.mayEnter = true) (h14 : (c.lifted == P.liftsFinal) = true) (h15 : (P.make == some c.make) = true)
    (h16 : (fn.params.all (P.readableRec ·) && (c.stops == []) && (c.knobs == []) &&
      (c.maps == (fn.params.toList ++ s.plain.varTypes P).any (P.mapsRec ·)) && (c.ifaces == (fn.params.toList ++ s.plain.varTypes P).any (P.ifacesRec ·)) && (c.mapsOut == P.mapsAmong fn.resultTypes.toList) &&
      (c.loops == (fn.params.toList ++ s.plain.varTypes P).any (P.loopsFrom ·)) && (c.wideKeys == (fn.params.toList ++ s.plain.varTypes P ++ fn.resultTypes.toList).any (P.wideKeysFrom ·)) &&
      s.vars.all (P.varReadable ·) && fn.resultTypes.all (fun t => P.readableRec t && decide (t < P.types.size)) && (c.ifacesOut == fn.resultTypes.toList.any (P.ifacesRec ·)) && (c.loopsOut == fn.resultTypes.toList.any (P.loopsFrom ·)) && c.shortTexts.isNone &&
      (c.kinds == (if c.domain.isEmpty then [] else fn.params.toList.map fun t => match P.underlying t with | some (.int k) => some k | _ => none)) && (c.pinned == c.pinnedBy) &&
      (c.veiled == (fn.params.toList ++ s.plain.varTypes P ++ fn.resultTypes.toList).any (P.veiledRec ·)) && c.veiledFits P fn.params.toList (fn.params.toList ++ s.plain.varTypes P ++ fn.resultTypes.toList)) = true) : joinedFacts P f fn s c = true := by
  unfold joinedFacts
  rw [h1, h2, h3, h4, h5, h6, h7, h8, h9, h10, h11, h12, h13, h14, h15]
  simp only [Bool.true_and, Bool.and_true]
  exact h16
end Go.PV
namespace Go.PV
open Go Go.RowKit Go.Lib Go.Proofs Go.Proofs.YtefolkppcdjbpaaGreatDoor
theorem pow_datum : (Rows.laid_internal_strconv_uint64pow10 : DataW Unit) = Lib.tabData .u64 Lib.pow10Tab := by kernel_rfl
theorem laidT_of {r : List (String × DataW Unit)} {W : World} (h : laidMet Tryz.prog (("internal/strconv.uint64pow10", Rows.laid_internal_strconv_uint64pow10) :: r) W) : Lib.TabIs Tryz.prog W "internal/strconv.uint64pow10" .u64 Lib.pow10Tab := by
  rw [pow_datum] at h
  exact tabIs_of_head (g := 5) (by kernel_rfl) (by kernel_rfl) Tryz.underlying178 Tryz.underlying155 (by kernel_rfl) (by kernel_rfl) h
theorem star_es : "*" ++ "errors.errorString" = "*errors.errorString" := by decide
theorem row_es (u : TypeId) (h : Tryz.prog.typeName? 3 u = some "*errors.errorString") : u = 174 :=
  typeName_ptr_named (nm := "errors.errorString") (by rw [star_es]; kernel_rfl) (by kernel_rfl) (by decide) u (by rw [star_es]; exact h)
theorem globRan_of {r : List (String × DataW Unit)} {W : World} (h : laidMet Tryz.prog (("strconv.ErrRange", Rows.laid_strconv_ErrRange) :: r) W) : ∃ tp p, W.var? Tryz.prog "strconv.ErrRange" = some #[.iface tp p] := by
  obtain ⟨a, s, hv, _⟩ := laid_sentinel (g := 2) h (by kernel_rfl) (by kernel_rfl) Tryz.underlying107 row_es Tryz.underlying174 Tryz.underlying176 rfl rfl Tryz.underlying9 (by kernel_rfl) (by kernel_rfl)
  exact ⟨_, _, hv⟩
theorem globSyn_of {r : List (String × DataW Unit)} {W : World} (h : laidMet Tryz.prog (("strconv.ErrSyntax", Rows.laid_strconv_ErrSyntax) :: r) W) : ∃ tp p, W.var? Tryz.prog "strconv.ErrSyntax" = some #[.iface tp p] := by
  obtain ⟨a, s, hv, _⟩ := laid_sentinel (g := 1) h (by kernel_rfl) (by kernel_rfl) Tryz.underlying107 row_es Tryz.underlying174 Tryz.underlying176 rfl rfl Tryz.underlying9 (by kernel_rfl) (by kernel_rfl)
  exact ⟨_, _, hv⟩
end Go.PV
