/- Part of the proof. -/
import Derived.Test.YtfdopmapaaagoaaGreatDoorM4
set_option linter.unusedVariables false
set_option linter.unusedSimpArgs false
namespace Go.PV
open Go
/-! law 14: a line ahead of a text -/
def upP (p : Int × Int) : Int × Int := (p.1 + 1, p.2)
def upT (t : Tok) : Tok := ⟨t.k, t.t, upP t.p⟩
theorem kt_up (t : Tok) : kt (upT t) = kt t := rfl
namespace Rd
def mv (pre : List Tok) (r : Rd) : Rd := ⟨pre ++ r.l.map upT, pre.length + r.i, r.bad, r.over, r.wrong⟩
variable (pre : List Tok)
theorem mv_cur (r : Rd) : (r.mv pre).cur = r.cur := by
  unfold cur mv
  dsimp only
  rw [List.getElem?_append_right (by omega), Nat.add_sub_cancel_left, List.getElem?_map]
  cases r.l[r.i]? <;> rfl
theorem mv_open (r : Rd) : (r.mv pre).isOpen = r.isOpen := rfl
theorem mv_step (r : Rd) : (r.mv pre).step = r.step.mv pre := rfl
theorem mv_fail (r : Rd) : (r.mv pre).fail = r.fail.mv pre := rfl
theorem mv_see (r : Rd) (k : Int) (t : Bs) : (r.mv pre).see k t = r.see k t := by unfold see; rw [mv_cur, mv_open]
theorem mv_want (r : Rd) (k : Int) (t : Bs) : (r.mv pre).want k t = (r.want k t).mv pre := by
  unfold want
  rw [mv_see, mv_open, mv_step, mv_fail]
  split
  · rfl
  · split <;> rfl
theorem mv_name (r : Rd) : (r.mv pre).name = (r.name.1, r.name.2.mv pre) := by
  unfold name
  rw [mv_cur, mv_open, mv_step, mv_fail]
  split
  · split
    · split <;> rfl
    · rfl
  · rfl
theorem mv_term (r : Rd) : (r.mv pre).term = (r.term.1, r.term.2.mv pre) := by
  unfold term
  rw [mv_cur, mv_open, mv_step, mv_fail]
  split
  · split <;> rfl
  · rfl
theorem mv_args : ∀ (f : Nat) (r : Rd), args f (r.mv pre) = ((args f r).1, (args f r).2.mv pre)
  | 0, r => rfl
  | f + 1, r => by
    rw [args, args, mv_see, mv_step, mv_term]
    dsimp only
    rw [mv_args f]
    split <;> rfl
theorem args_fuel : ∀ (f f' : Nat) (r : Rd), r.l.length ≤ f + r.i → r.l.length ≤ f' + r.i → args f r = args f' r := by
  have no : ∀ {r : Rd}, r.l.length ≤ r.i → r.see 5 [44] = false := fun {r} h => by
    cases hs : r.see 5 [44] with
    | false => rfl
    | true => have := cur_lt (see_open hs).2; omega
  intro f
  induction f with
  | zero =>
    intro f' r h _
    have := no (r := r) (by omega)
    cases f' with
    | zero => rfl
    | succ f' => rw [args, args, this]; rfl
  | succ f ih =>
    intro f' r h h'
    cases f' with
    | zero =>
      have := no (r := r) (by omega)
      rw [args, args, this]; rfl
    | succ f' =>
      have h1 := term_l r.step
      have e : r.step.l = r.l := rfl
      have e2 : r.step.i = r.i + 1 := rfl
      rw [args, args, ih f' r.step.term.2 (by rw [h1.1, e]; omega) (by rw [h1.1, e]; omega)]
theorem mv_brack (r : Rd) : (r.mv pre).brack = (r.brack.1, r.brack.2.mv pre) := by
  unfold brack
  dsimp only
  have h1 := term_l r.step
  have e : r.step.l = r.l := rfl
  rw [mv_step, mv_term]
  dsimp only
  have hl : (r.mv pre).l.length = pre.length + r.l.length := by simp [mv]
  rw [mv_args, hl, args_fuel (pre.length + r.l.length) r.l.length r.step.term.2 (by rw [h1.1, e]; omega) (by rw [h1.1, e]; omega), mv_want]
theorem mv_atom (r : Rd) : (r.mv pre).atom = (r.atom.1, r.atom.2.mv pre) := by
  unfold atom
  dsimp only
  rw [mv_name]
  dsimp only
  rw [mv_see, mv_brack]
  split
  · dsimp only
    split <;> rfl
  · rfl
end Rd
theorem mv_readA (pre l : List Tok) (i : Nat) : readA (pre ++ l.map upT) (pre.length + i) = ((readA l i).1, pre.length + (readA l i).2.1, (readA l i).2.2) := by
  unfold readA
  dsimp only
  have e : rd0 (pre ++ l.map upT) (pre.length + i) = (rd0 l i).mv pre := rfl
  rw [e, Rd.mv_atom]
  generalize (rd0 l i).atom = x
  dsimp only
  have h1 : (x.2.mv pre).endE = x.2.endE := rfl
  rw [h1]
  have h2 : (x.2.mv pre).endI (pre.length + i) = pre.length + x.2.endI i := by
    unfold Rd.endI Rd.mv
    dsimp only
    split
    · simp only [List.length_append, List.length_map]; omega
    · split <;> rfl
  rw [h2]
theorem mv_event (pre l : List Tok) (i : Nat) : eventS (pre ++ l.map upT) (pre.length + i) = ((eventS l i).1, pre.length + (eventS l i).2.1, (eventS l i).2.2) := by
  unfold eventS
  dsimp only
  rw [mv_readA]
  dsimp only
  split
  · rfl
  · split
    · rfl
    · rw [List.getElem?_append_right (by omega), Nat.add_sub_cancel_left, List.getElem?_map]
      cases l[(readA l i).2.1]? with
      | none => rfl
      | some t =>
        simp only [Option.map_some]
        have e : (upT t).k = t.k ∧ (upT t).t = t.t := ⟨rfl, rfl⟩
        rw [e.1, e.2]
        split <;> rfl
theorem mv_go (pre l : List Tok) : ∀ (f i : Nat), traceGo (pre ++ l.map upT) f (pre.length + i) = ((traceGo l f i).1, (traceGo l f i).2.map (pre.length + ·))
  | 0, i => rfl
  | f + 1, i => by
    rw [traceGo, traceGo]
    dsimp only
    rw [mv_event]
    dsimp only
    rw [mv_go pre l f]
    have e : (pre.length + i < (pre ++ l.map upT).length) = (i < l.length) := by simp
    simp only [e]
    split
    · split <;> rfl
    · rfl
theorem go_fuel (l : List Tok) : ∀ (f f' i : Nat), l.length ≤ f + i → l.length ≤ f' + i → traceGo l f i = traceGo l f' i := by
  intro f
  induction f with
  | zero =>
    intro f' i h _
    cases f' with
    | zero => rfl
    | succ f' => rw [traceGo, traceGo, if_neg (by omega)]
  | succ f ih =>
    intro f' i h h'
    cases f' with
    | zero => rw [traceGo, traceGo, if_neg (by omega)]
    | succ f' =>
      rw [traceGo, traceGo]
      dsimp only
      split
      · split
        · rename_i h0
          have := eventS_ok h0
          rw [ih f' _ (by omega) (by omega)]
        · rfl
      · rfl
def okL : Bs := [111, 107, 40, 49, 41, 46, 32, 37, 32, 110, 111, 116, 104, 105, 110, 103, 10]
theorem posS_up (u : Bs) : posS (okL ++ u) = upP (posS u) := by
  have go : ∀ (u : Bs) (p : Int × Int), u.foldl (fun p c => if c.toNat = 10 then (p.1 + 1, 1) else (p.1, p.2 + 1)) (upP p) = upP (u.foldl (fun p c => if c.toNat = 10 then (p.1 + 1, 1) else (p.1, p.2 + 1)) p) := by
    intro u
    induction u with
    | nil => intro p; rfl
    | cons c u ih =>
      intro p
      simp only [List.foldl_cons]
      rw [← ih]
      congr 1
      split <;> rfl
  unfold posS
  rw [List.foldl_append]
  exact go u (1, 1)
theorem toks_fuel (s : Bs) : ∀ (f f' i : Nat), s.length ≤ f + i → s.length ≤ f' + i → toksGo s f i = toksGo s f' i := by
  intro f
  induction f with
  | zero => intro f' i h _; rw [toksGo_end s 0 i (by omega), toksGo_end s f' i (by omega)]
  | succ f ih =>
    intro f' i h h'
    cases f' with
    | zero => rw [toksGo_end s 0 i (by omega), toksGo_end s (f + 1) i (by omega)]
    | succ f' =>
      rw [toksGo, toksGo]
      dsimp only
      split
      · split
        · rename_i h0
          have := nextS_pos h0
          rw [ih f' _ (by omega) (by omega)]
        · rfl
      · rfl
theorem toksGo_up (T : Bs) : ∀ (f i : Nat), toksGo (okL ++ T) f (17 + i) = ((toksGo T f i).1.map upT, (toksGo T f i).2.map upP)
  | 0, i => rfl
  | f + 1, i => by
    have hl : okL.length = 17 := rfl
    have hd : ∀ j, (okL ++ T).drop (17 + j) = T.drop j := fun j => by
      rw [← hl, List.drop_append, List.drop_eq_nil_of_le (by omega), List.nil_append, Nat.add_sub_cancel_left]
    have ht : (okL ++ T).take (17 + i) = okL ++ T.take i := by
      rw [← hl, List.take_append, List.take_of_length_le (by omega), Nat.add_sub_cancel_left]
    have e : (17 + i < (okL ++ T).length) = (i < T.length) := by rw [List.length_append, hl]; simp
    rw [toksGo, toksGo]
    dsimp only
    rw [hd, ht, posS_up]
    simp only [e, Nat.add_assoc, hd]
    rw [← Nat.add_assoc i, toksGo_up T f]
    split
    · split <;> rfl
    · rfl
theorem toksGo_step {s : Bs} {f i k n : Nat} {c : Int} (h : i < s.length) (hn : nextS (s.drop i) = (c, n, true)) (hb : blanksN false (s.drop (i + n)) = k) :
    toksGo s (f + 1) i = (⟨c, (s.drop i).take n, posS (s.take i)⟩ :: (toksGo s f (i + n + k)).1, (toksGo s f (i + n + k)).2) := by
  rw [toksGo, if_pos h]
  dsimp only
  rw [hn]
  dsimp only
  rw [hb, if_pos rfl]
def okTs : List Tok := [⟨1, [111, 107], (1, 1)⟩, ⟨5, [40], (1, 3)⟩, ⟨3, [49], (1, 4)⟩, ⟨5, [41], (1, 5)⟩, ⟨5, [46], (1, 6)⟩]
theorem toks_up (T : Bs) : toksS (okL ++ T) = (okTs ++ (toksS T).1.map upT, (toksS T).2.map upP) := by
  have hl : (okL ++ T).length = T.length + 12 + 5 := by rw [List.length_append]; show 17 + T.length = _; omega
  have h0 : blanksN false (okL ++ T) = 0 := rfl
  have s1 : nextS ((okL ++ T).drop 0) = (1, 2, true) := nextS_end (t := (1, [111, 107])) (r := [40, 49, 41, 46, 32, 37, 32, 110, 111, 116, 104, 105, 110, 103, 10] ++ T) (by unfold Tk; decide +kernel) rfl
  have s2 : nextS ((okL ++ T).drop 2) = (5, 1, true) := nextS_end (t := (5, [40])) (r := [49, 41, 46, 32, 37, 32, 110, 111, 116, 104, 105, 110, 103, 10] ++ T) (by unfold Tk; decide +kernel) rfl
  have s3 : nextS ((okL ++ T).drop 3) = (3, 1, true) := nextS_end (t := (3, [49])) (r := [41, 46, 32, 37, 32, 110, 111, 116, 104, 105, 110, 103, 10] ++ T) (by unfold Tk; decide +kernel) rfl
  have s4 : nextS ((okL ++ T).drop 4) = (5, 1, true) := nextS_end (t := (5, [41])) (r := [46, 32, 37, 32, 110, 111, 116, 104, 105, 110, 103, 10] ++ T) (by unfold Tk; decide +kernel) rfl
  have s5 : nextS ((okL ++ T).drop 5) = (5, 1, true) := nextS_end (t := (5, [46])) (r := [32, 37, 32, 110, 111, 116, 104, 105, 110, 103, 10] ++ T) (by unfold Tk; decide +kernel) rfl
  have b5 : blanksN false ((okL ++ T).drop (5 + 1)) = 11 + blanksN false T := by
    show blanksN false ([32, 37, 32, 110, 111, 116, 104, 105, 110, 103, 10] ++ T) = _
    simp [blanksN, blankB]; omega
  unfold toksS
  rw [hl, h0, toksGo_step (by omega) s1 (k := 0) rfl, toksGo_step (i := 0 + 2 + 0) (by omega) s2 (k := 0) rfl, toksGo_step (i := 0 + 2 + 0 + 1 + 0) (by omega) s3 (k := 0) rfl, toksGo_step (i := 0 + 2 + 0 + 1 + 0 + 1 + 0) (by omega) s4 (k := 0) rfl, toksGo_step (i := 0 + 2 + 0 + 1 + 0 + 1 + 0 + 1 + 0) (by omega) s5 b5]
  have e : 0 + 2 + 0 + 1 + 0 + 1 + 0 + 1 + 0 + 1 + (11 + blanksN false T) = 17 + blanksN false T := by omega
  rw [e, toksGo_up, toks_fuel T (T.length + 12) T.length _ (by omega) (by omega)]
  rfl
theorem hkk : okTs.map kt = (atomK [] (⟨[111, 107], [⟨1, 1, []⟩]⟩ : Fct).at).map (·.2) ++ [(5, [46])] := by decide +kernel
theorem place_up (l : List Tok) (j : Nat) (hne : l ≠ []) : placeT (okTs ++ l.map upT) (5 + j) = upP (placeT l j) := by
  unfold placeT
  rw [List.getElem?_append_right (by show 5 ≤ 5 + j; omega), show 5 + j - okTs.length = j from by show 5 + j - 5 = j; omega, List.getElem?_map]
  cases l[j]? with
  | some t => rfl
  | none =>
    simp only [Option.map_none]
    rw [List.getLast?_append, List.getLast?_map]
    cases hg : l.getLast? with
    | none => exact absurd (List.getLast?_eq_none_iff.1 hg) hne
    | some t => rfl
theorem go_up (l : List Tok) : traceGo (okTs ++ l.map upT) (okTs ++ l.map upT).length 0 = (⟨[111, 107], [⟨1, 1, []⟩]⟩ :: (traceGo l l.length 0).1, (traceGo l l.length 0).2.map (5 + ·)) := by
  have hlen : (okTs ++ l.map upT).length = l.length + 4 + 1 := by rw [List.length_append, List.length_map]; show 5 + l.length = _; omega
  have hev : eventS (okTs ++ l.map upT) 0 = (⟨[111, 107], [⟨1, 1, []⟩]⟩, 5, 0) := by
    have := eventS_back (l := okTs ++ l.map upT) (i := 0) (f := ⟨[111, 107], [⟨1, 1, []⟩]⟩) (b := []) (m := (l.map upT).map kt) (by decide +kernel) (by rw [List.drop_zero, List.map_append, hkk]; simp)
    rw [this]; rfl
  have hm := mv_go okTs l (l.length + 4) 0
  have e5 : okTs.length + 0 = 5 := rfl
  rw [e5] at hm
  rw [hlen, traceGo, if_pos (by omega)]
  dsimp only
  rw [hev]
  dsimp only
  rw [if_pos rfl, hm, go_fuel l (l.length + 4) l.length 0 (by omega) (by omega)]
  rfl
theorem parse_up {T : Bs} {p : Int × Int} {c : Int} (h : parseT T = ([], p, c)) (hc : c = 6 ∨ c = 7) : parseT (okL ++ T) = ([], upP p, c) := by
  have ht := toks_up T
  unfold parseT at h ⊢
  have e1 : errR (okL ++ T) = errR T := by unfold errR; rw [ht]; cases (toksS T).2 <;> rfl
  rw [e1]
  by_cases he : errR T = 0
  · rw [if_pos he] at h ⊢
    have hz : (toksS T).2 = none := by
      unfold errR at he
      cases hh : (toksS T).2 with
      | none => rfl
      | some p => rw [hh] at he; simp at he
    have e2 : toksR (okL ++ T) = okTs ++ (toksR T).map upT := by
      unfold toksR; rw [ht, hz]; rfl
    rw [e2]
    generalize toksR T = l at *
    dsimp only at h ⊢
    rw [go_up]
    cases hn : (traceGo l l.length 0).2 with
    | none =>
      rw [hn] at h
      dsimp only at h
      split at h
      · simp only [Prod.mk.injEq] at h; omega
      · simp only [Prod.mk.injEq] at h; omega
    | some j =>
      rw [hn] at h
      simp only [Prod.mk.injEq] at h
      obtain ⟨_, hp, hc7⟩ := h
      have hne : l ≠ [] := by
        rintro rfl
        rw [show traceGo [] ([] : List Tok).length 0 = ([], none) from rfl] at hn; cases hn
      simp only [Option.map_some]
      show ([], placeT (okTs ++ l.map upT) (5 + j), (7 : Int)) = _
      rw [place_up l j hne, hp, hc7]
  · rw [if_neg he] at h ⊢
    simp only [Prod.mk.injEq] at h
    obtain ⟨_, hp, hc⟩ := h
    have e2 : posR (okL ++ T) = upP (posR T) := by
      unfold posR; rw [ht]
      cases hz : (toksS T).2 with
      | none => exfalso; apply he; unfold errR; rw [hz]; rfl
      | some q => rfl
    rw [e2, hp, hc]
def okN : Nat → Bs
  | 0 => []
  | n + 1 => okN n ++ okL
theorem okN_succ : ∀ n, okN (n + 1) = okL ++ okN n
  | 0 => rfl
  | n + 1 => by
    show okN (n + 1) ++ okL = okL ++ (okN n ++ okL)
    rw [okN_succ n, List.append_assoc]
theorem okN_len : ∀ n, (okN n).length = 17 * n
  | 0 => rfl
  | n + 1 => by rw [okN, List.length_append, okN_len n]; show 17 * n + 17 = _; omega
theorem parse_lines {T : Bs} {p : Int × Int} {c : Int} (h : parseT T = ([], p, c)) (hc : c = 6 ∨ c = 7) : ∀ n : Nat, parseT (okN n ++ T) = ([], (p.1 + n, p.2), c)
  | 0 => by rw [show okN 0 ++ T = T from rfl, h]; simp
  | n + 1 => by
    rw [okN_succ, List.append_assoc, parse_up (parse_lines h hc n) hc]
    unfold upP
    simp only [Prod.mk.injEq, true_and, and_true]
    omega
def badS : List Bs := [[112, 40, 49, 41], [112, 40, 49, 44, 41, 46], [112, 40, 88, 41, 46], [113, 46, 32, 112, 40, 49, 44, 32, 88, 41, 46], [110, 111, 116, 40, 49, 41, 46], [112, 32, 49, 46], [49, 46], [112, 40, 49, 41, 46, 32, 46], [112, 40, 34, 97, 41, 46], [112, 40, 49, 44, 32, 50, 44, 32, 51, 44, 32, 52, 44, 32, 53, 44, 32, 54, 41, 46]]
def lineS : List Int := [1, 0, 0, 0, 0, 0, 0, 0, 0, 0]
def colS : List Int := [1, 5, 1, 4, 1, 3, 1, 7, 3, 1]
def whyS : List Int := [7, 7, 7, 7, 7, 7, 7, 7, 6, 7]
theorem bad_S : ((List.range 10).all fun k => decide ((parseT (badS.getD k [] ++ [10, 114, 46])).1.length = 0) && decide ((parseT (badS.getD k [] ++ [10, 114, 46])).2 = ((1 + lineS.getD k 0, colS.getD k 0), whyS.getD k 0)) && decide (whyS.getD k 0 = 6 ∨ whyS.getD k 0 = 7) && decide ((badS.getD k []).length ≤ 30)) = true := by decide +kernel
end Go.PV
namespace Go.PV
open Go
/-! rules -/
structure Cnd where
  k : Int
  a : Atm
  h : Int
  l : List Stp
  r : List Stp
abbrev Cnd.c (x : Cnd) : List V := [.int .i64 x.k, .str x.a.n, .sl 4 (trmV x.a.a), .int .i64 x.h, .sl 5 (stpV x.l), .sl 5 (stpV x.r)]
abbrev opsV (l : List (List Stp)) : List (List V) := l.map fun x => [.sl 5 (stpV x)]
structure Act where
  k : Int
  n : Bs
  a : List (List Stp)
  w : Int
abbrev Act.c (x : Act) : List V := [.int .i64 x.k, .str x.n, .sl 1 (opsV x.a), .int .i64 x.w]
abbrev cndV (l : List Cnd) : List (List V) := l.map Cnd.c
abbrev actV (l : List Act) : List (List V) := l.map Act.c
structure Rul where
  n : Bs
  p : Int
  c : List Cnd
  a : List Act
abbrev Rul.v (x : Rul) : List V := [.str x.n, .int .i64 x.p, .sl 6 (cndV x.c), .sl 4 (actV x.a)]
instance : DecidableEq Cnd := fun a b => decidable_of_iff (a.k = b.k ∧ a.a = b.a ∧ a.h = b.h ∧ a.l = b.l ∧ a.r = b.r) (by cases a; cases b; simp)
instance : DecidableEq Act := fun a b => decidable_of_iff (a.k = b.k ∧ a.n = b.n ∧ a.a = b.a ∧ a.w = b.w) (by cases a; cases b; simp)
instance : DecidableEq Rul := fun a b => decidable_of_iff (a.n = b.n ∧ a.p = b.p ∧ a.c = b.c ∧ a.a = b.a) (by cases a; cases b; simp)
def guardOk (c : Cnd) : Bool := decide (c.k = 3) && (decide (c.a.n = []) && (decide (c.a.a = []) && (decide (1 ≤ c.h ∧ c.h ≤ 4) && (exprOk c.l && exprOk c.r))))
def condOk (c : Cnd) : Bool := if c.k = 3 then guardOk c else (decide (c.k = 1 ∨ c.k = 2) && (decide (c.h = 0) && (decide (c.l = []) && decide (c.r = [])))) && atomOk c.a
def actOk (m : Int) (x : Act) : Bool :=
  if x.k = 1 then nameS x.n && (decide (x.w = 0) && (decide (x.a.length ≤ 5) && x.a.all exprOk))
  else if x.k = 2 then decide (x.n = []) && (decide (x.a = []) && decide (0 ≤ x.w ∧ x.w < m)) else false
def hasN (l : List Cnd) : Nat := (l.filter fun c => decide (c.k = 1)).length
def headK (l : List Cnd) : Int := match l with | c :: _ => c.k | [] => 0
def ruleOk (r : Rul) : Bool := nameS r.n && decide (-1000 ≤ r.p ∧ r.p ≤ 1000) && decide (1 ≤ r.c.length ∧ r.c.length ≤ 6) && decide (headK r.c = 1) && decide (1 ≤ r.a.length ∧ r.a.length ≤ 6) && r.c.all condOk && r.a.all (actOk (hasN r.c))
def cndB (c : Cnd) : Prop := c.a.n.length ≤ 1000000 ∧ c.a.a.length ≤ 1000000 ∧ (∀ t ∈ c.a.a, t.v.length ≤ 1000000 ∧ t.x.s.length ≤ 1000000) ∧ c.l.length ≤ 1000000 ∧ (∀ o ∈ c.l, o.v.length ≤ 1000000 ∧ o.x.s.length ≤ 1000000) ∧ c.r.length ≤ 1000000 ∧ (∀ o ∈ c.r, o.v.length ≤ 1000000 ∧ o.x.s.length ≤ 1000000)
def actB (x : Act) : Prop := x.n.length ≤ 1000000 ∧ x.a.length ≤ 1000000 ∧ ∀ l ∈ x.a, l.length ≤ 1000000 ∧ ∀ o ∈ l, o.v.length ≤ 1000000 ∧ o.x.s.length ≤ 1000000
def rulB (r : Rul) : Prop := r.n.length ≤ 1000000 ∧ r.c.length ≤ 1000000 ∧ (∀ c ∈ r.c, cndB c) ∧ r.a.length ≤ 1000000 ∧ ∀ x ∈ r.a, actB x
def wayL : List Bs := [[61], [33, 61], [60], [60, 61]]
def wayT (h : Int) : Bs := wayL.getD (h - 1).toNat []
def condT (c : Cnd) : Bs :=
  if c.k = 3 then [91] ++ exprT c.l ++ [32] ++ wayT c.h ++ [32] ++ exprT c.r ++ [93]
  else if c.k = 2 then [110, 111, 116, 32] ++ atomT c.a else atomT c.a
def actT (x : Act) : Bs :=
  if x.k = 2 then [100, 114, 111, 112, 32] ++ Lib.itoa x.w
  else if x.a = [] then [43] ++ x.n else [43] ++ x.n ++ [40] ++ Lib.join (x.a.map exprT) [44, 32] ++ [41]
def ruleT (r : Rul) : Bs := [114, 117, 108, 101, 32] ++ r.n ++ [32] ++ Lib.itoa r.p ++ [58, 32] ++ Lib.join (r.c.map condT) [44, 32] ++ [32, 45, 62, 32] ++ Lib.join (r.a.map actT) [44, 32] ++ [46]
def ruleE (r : Rul) : Int := if ruleOk r then (if 20000 < (ruleT r).length then 2 else 0) else 1
def ruleX (r : Rul) : Bs := if ruleE r = 0 then ruleT r else []
theorem join_le (b : Nat) : ∀ l : List Bs, (∀ x ∈ l, x.length ≤ b) → (Lib.join l [44, 32]).length ≤ (b + 2) * l.length
  | [], _ => by simp [Lib.join_nil]
  | x :: r, h => by
    rw [Lib.join_cons]
    have hx := h x (by simp)
    have : ∀ r : List Bs, (∀ p ∈ r, p.length ≤ b) → (Lib.joinTail [44, 32] r).length ≤ (b + 2) * r.length := fun r => by
      induction r with
      | nil => intro _; simp [Lib.joinTail]
      | cons x r ih =>
        intro hx
        have h1 := ih (fun p hp => hx p (by simp [hp]))
        have h2 := hx x (by simp)
        simp only [Lib.joinTail] at h1 ⊢
        simp only [List.map_cons, List.flatten_cons, List.length_append, List.length_cons, List.length_nil, Nat.mul_succ]
        omega
    have h1 := this r (fun p hp => h p (by simp [hp]))
    simp only [List.length_append, List.length_cons, Nat.mul_succ]
    omega
theorem wayT_len (h : Int) : (wayT h).length ≤ 2 := by
  unfold wayT wayL
  rcases (h - 1).toNat with _ | _ | _ | _ | k <;> simp
theorem condOk_3 {c : Cnd} (h : condOk c = true) (hk : c.k = 3) : c.a = zeroA ∧ 1 ≤ c.h ∧ c.h ≤ 4 ∧ exprOk c.l = true ∧ exprOk c.r = true := by
  unfold condOk at h
  rw [if_pos hk] at h
  unfold guardOk at h
  simp only [Bool.and_eq_true, decide_eq_true_eq] at h
  obtain ⟨_, h1, h2, h3, h4, h5⟩ := h
  obtain ⟨k, ⟨n, a⟩, hh, l, r⟩ := c
  exact ⟨by dsimp only at h1 h2; rw [h1, h2]; rfl, h3.1, h3.2, h4, h5⟩
theorem condOk_n {c : Cnd} (h : condOk c = true) (hk : ¬ c.k = 3) : (c.k = 1 ∨ c.k = 2) ∧ c.h = 0 ∧ c.l = [] ∧ c.r = [] ∧ atomOk c.a = true := by
  unfold condOk at h
  rw [if_neg hk] at h
  simp only [Bool.and_eq_true, decide_eq_true_eq] at h
  exact ⟨h.1.1, h.1.2.1, h.1.2.2.1, h.1.2.2.2, h.2⟩
theorem condT_len {c : Cnd} (h : condOk c = true) : (condT c).length ≤ 4000 := by
  unfold condT
  split
  · rename_i hk
    obtain ⟨_, _, _, h1, h2⟩ := condOk_3 h hk
    have := exprT_len h1
    have := exprT_len h2
    have := wayT_len c.h
    simp only [List.length_append, List.length_cons, List.length_nil]; omega
  · rename_i hk
    obtain ⟨_, _, _, _, h1⟩ := condOk_n h hk
    have := atomT_len h1
    split
    · simp only [List.length_append, List.length_cons, List.length_nil]; omega
    · omega
theorem actOk_1 {m : Int} {x : Act} (h : actOk m x = true) (hk : ¬ x.k = 2) : x.k = 1 ∧ nameS x.n = true ∧ x.w = 0 ∧ x.a.length ≤ 5 ∧ x.a.all exprOk = true := by
  unfold actOk at h
  split at h
  · rename_i h1
    simp only [Bool.and_eq_true, decide_eq_true_eq] at h
    exact ⟨h1, h.1, h.2.1, h.2.2.1, h.2.2.2⟩
  · cases h
theorem actOk_2 {m : Int} {x : Act} (h : actOk m x = true) (hk : x.k = 2) : x.n = [] ∧ x.a = [] ∧ 0 ≤ x.w ∧ x.w < m := by
  unfold actOk at h
  rw [if_neg (by omega), if_pos hk] at h
  simp only [Bool.and_eq_true, decide_eq_true_eq] at h
  exact ⟨h.1, h.2.1, h.2.2.1, h.2.2.2⟩
theorem name_len {s : Bs} (h : nameS s = true) : s.length ≤ 24 := by
  unfold nameS refWordS at h
  simp at h; omega
theorem actT_len {m : Int} {x : Act} (hm : m ≤ 1000) (h : actOk m x = true) : (actT x).length ≤ 10000 := by
  unfold actT
  split
  · rename_i hk
    obtain ⟨_, _, h1, h2⟩ := actOk_2 h hk
    have := itoa_len (n := x.w) (by unfold inR; rw [decide_eq_true_iff]; omega)
    simp only [List.length_append, List.length_cons, List.length_nil]; omega
  · rename_i hk
    obtain ⟨_, h1, _, h3, h4⟩ := actOk_1 h hk
    have := name_len h1
    split
    · simp only [List.length_append, List.length_cons, List.length_nil]; omega
    · have hj := join_le 1950 (x.a.map exprT) (fun p hp => by
        obtain ⟨l, hl, rfl⟩ := List.mem_map.1 hp
        exact exprT_len (List.all_eq_true.1 h4 l hl))
      rw [List.length_map] at hj
      simp only [List.length_append, List.length_cons, List.length_nil]; omega
theorem ruleOk_all {r : Rul} (h : ruleOk r = true) : nameS r.n = true ∧ -1000 ≤ r.p ∧ r.p ≤ 1000 ∧ 1 ≤ r.c.length ∧ r.c.length ≤ 6 ∧ headK r.c = 1 ∧ 1 ≤ r.a.length ∧ r.a.length ≤ 6 ∧ (∀ c ∈ r.c, condOk c = true) ∧ ∀ x ∈ r.a, actOk (hasN r.c) x = true := by
  unfold ruleOk at h
  simp only [Bool.and_eq_true, decide_eq_true_eq, List.all_eq_true] at h
  obtain ⟨⟨⟨⟨⟨⟨h1, h2⟩, h3⟩, h4⟩, h5⟩, h6⟩, h7⟩ := h
  exact ⟨h1, h2.1, h2.2, h3.1, h3.2, h4, h5.1, h5.2, h6, h7⟩
theorem hasN_len (l : List Cnd) : hasN l ≤ l.length := List.length_filter_le _ _
theorem ruleT_len {r : Rul} (h : ruleOk r = true) : (ruleT r).length ≤ 100000 ∧ (Lib.join (r.c.map condT) [44, 32]).length ≤ 30000 ∧ (Lib.join (r.a.map actT) [44, 32]).length ≤ 70000 ∧ (Lib.itoa r.p).length ≤ 20 ∧ r.n.length ≤ 24 := by
  obtain ⟨h1, h2, h3, h4, h5, h6, h7, h8, h9, h10⟩ := ruleOk_all h
  have hn := name_len h1
  have hp := itoa_len (n := r.p) (by unfold inR; rw [decide_eq_true_iff]; omega)
  have hh := hasN_len r.c
  have hc := join_le 4000 (r.c.map condT) (fun p hp => by
    obtain ⟨l, hl, rfl⟩ := List.mem_map.1 hp
    exact condT_len (h9 l hl))
  have ha := join_le 10000 (r.a.map actT) (fun p hp => by
    obtain ⟨l, hl, rfl⟩ := List.mem_map.1 hp
    exact actT_len (by omega) (h10 l hl))
  rw [List.length_map] at hc ha
  refine ⟨?_, by omega, by omega, hp, hn⟩
  unfold ruleT
  simp only [List.length_append, List.length_cons, List.length_nil]; omega
end Go.PV
namespace Go.PV
open Go Go.Proofs
set_option maxRecDepth 100000
theorem gright_good (h : Int) : Good Tryz.prog 225 [.int .i64 h] [] [.bool (decide (1 ≤ h ∧ h ≤ 4))] [] := by
  refine good_of hP Tryz.func225 (by kernel_rfl) (lv := [0, 2]) (js := []) ⟨rfl, rfl, rfl, rfl, rfl, rfl, _, rfl, ?_⟩
  conv => whnf
  refine branch_of (fun g => ?_) (fun g => ?_)
  · have g := of_decide_eq_true g
    conv => whnf
    exact fin0 (by rw [show decide (1 ≤ h ∧ h ≤ 4) = decide (h ≤ 4) from by rw [decide_eq_decide]; omega]) trivial
  · have g := of_decide_eq_false g
    conv => whnf
    exact fin0 (by rw [decide_eq_false (by omega)]) trivial
theorem gcheck_good (c : Cnd) (hb : cndB c) : Good Tryz.prog 187 [.agg c.c] [] [.int .i64 (if guardOk c then 0 else 1)] [] := by
  obtain ⟨k, ⟨n, a⟩, h, l, r⟩ := c
  obtain ⟨b1, b2, b3, b4, b5, b6, b7⟩ := hb
  dsimp only at b1 b2 b3 b4 b5 b6 b7
  refine good_of hP Tryz.func187 (by kernel_rfl) (lv := [0, 1, 2, 36]) (js := []) ⟨rfl, rfl, rfl, rfl, rfl, rfl, _, rfl, ?_⟩
  unfold guardOk
  dsimp only
  conv => whnf
  refine branch_of (fun h1 => ?_) (fun h1 => ?_)
  · have h1 : (!decide (k = 3)) = true := h1
    rw [Bool.not_eq_true'] at h1
    rw [h1]
    conv => whnf
    exact fin0 rfl trivial
  have h1 : (!decide (k = 3)) = false := h1
  rw [Bool.not_eq_false'] at h1
  rw [h1, Bool.true_and]
  conv => whnf
  refine branch_of (fun h2 => ?_) (fun h2 => ?_)
  · have h2 : (!decide (n = [])) = true := h2
    rw [Bool.not_eq_true'] at h2
    rw [h2]
    conv => whnf
    exact fin0 rfl trivial
  have h2 : (!decide (n = [])) = false := h2
  rw [Bool.not_eq_false'] at h2
  rw [h2, Bool.true_and]
  conv => whnf
  refine branch_of (fun h3 => ?_) (fun h3 => ?_)
  · have h3 := of_decide_eq_true h3
    rw [List.length_map] at h3
    have e : decide (a = []) = false := decide_eq_false (by rintro rfl; exact absurd h3 (by simp))
    rw [e]
    conv => whnf
    exact fin0 rfl trivial
  have h3 := of_decide_eq_false h3
  rw [List.length_map] at h3
  have e : decide (a = []) = true := decide_eq_true (List.eq_nil_of_length_eq_zero (by dsimp only at h3; omega))
  rw [e, Bool.true_and]
  conv => whnf
  refine call0 (gright_good h) ?_
  cases decide (1 ≤ h ∧ h ≤ 4) with
  | false =>
    conv => whnf
    exact fin0 rfl trivial
  | true =>
  rw [Bool.true_and]
  conv => whnf
  refine call0 (xcheck_good l ⟨b4, b5⟩) ?_
  cases exprOk l with
  | false =>
    conv => whnf
    exact fin0 rfl trivial
  | true =>
  rw [Bool.true_and]
  conv => whnf
  refine call0 (xcheck_good r ⟨b6, b7⟩) ?_
  cases exprOk r with
  | false =>
    conv => whnf
    exact fin0 rfl trivial
  | true =>
    conv => whnf
    exact fin0 rfl trivial
theorem rcond_good (c : Cnd) (hb : cndB c) : Good Tryz.prog 121 [.agg c.c] [] [.bool (condOk c)] [] := by
  have hg := gcheck_good c hb
  obtain ⟨k, ⟨n, a⟩, h, l, r⟩ := c
  obtain ⟨b1, b2, b3, b4, b5, b6, b7⟩ := hb
  dsimp only at b1 b2 b3 b4 b5 b6 b7
  refine good_of hP Tryz.func121 (by kernel_rfl) (lv := [0, 1, 2, 3, 6]) (js := []) ⟨rfl, rfl, rfl, rfl, rfl, rfl, _, rfl, ?_⟩
  unfold condOk
  dsimp only
  conv => whnf
  refine branch_of (fun h1 => ?_) (fun h1 => ?_)
  · have h1 : k = 3 := of_decide_eq_true h1
    rw [if_pos h1]
    conv => whnf
    refine call0 (hg) ?_
    generalize guardOk ⟨k, ⟨n, a⟩, h, l, r⟩ = b
    cases b with
    | false =>
      conv => whnf
      exact fin0 rfl trivial
    | true =>
      conv => whnf
      exact fin0 rfl trivial
  have h1 : ¬ k = 3 := of_decide_eq_false h1
  rw [if_neg h1]
  have el : decide ((((stpV l).length : Nat) : Int) = 0) = decide (l = []) := by
    rw [decide_eq_decide, List.length_map]
    exact ⟨fun e => List.eq_nil_of_length_eq_zero (by omega), fun e => by rw [e]; rfl⟩
  have er : decide ((((stpV r).length : Nat) : Int) = 0) = decide (r = []) := by
    rw [decide_eq_decide, List.length_map]
    exact ⟨fun e => List.eq_nil_of_length_eq_zero (by omega), fun e => by rw [e]; rfl⟩
  have ek : decide (k = 1 ∨ k = 2) = (decide (k = 1) || decide (k = 2)) := by simp
  rw [ek]
  conv => whnf
  cases e1 : decide (h = 0) with
  | false =>
    rw [Bool.false_and, Bool.and_false, Bool.false_and]
    conv => whnf
    cases decide (k = 1) with
    | true =>
      conv => whnf
      exact fin0 rfl trivial
    | false =>
      conv => whnf
      cases decide (k = 2) with
      | true =>
        conv => whnf
        exact fin0 rfl trivial
      | false =>
        conv => whnf
        exact fin0 rfl trivial
  | true =>
  rw [Bool.true_and]
  conv => whnf
  rw [el]
  cases e2 : decide (l = []) with
  | false =>
    rw [Bool.false_and, Bool.and_false, Bool.false_and]
    conv => whnf
    cases decide (k = 1) with
    | true =>
      conv => whnf
      exact fin0 rfl trivial
    | false =>
      conv => whnf
      cases decide (k = 2) with
      | true =>
        conv => whnf
        exact fin0 rfl trivial
      | false =>
        conv => whnf
        exact fin0 rfl trivial
  | true =>
  rw [Bool.true_and]
  conv => whnf
  rw [er]
  cases e3 : decide (r = []) with
  | false =>
    rw [Bool.and_false, Bool.false_and]
    cases decide (k = 1) with
    | true =>
      conv => whnf
      exact fin0 rfl trivial
    | false =>
      conv => whnf
      cases decide (k = 2) with
      | true =>
        conv => whnf
        exact fin0 rfl trivial
      | false =>
        conv => whnf
        exact fin0 rfl trivial
  | true =>
  rw [Bool.and_true]
  have hm := mcheck_good ⟨n, a⟩ ⟨b1, b2, b3⟩
  cases decide (k = 1) with
  | true =>
    rw [Bool.true_or, Bool.true_and]
    conv => whnf
    refine call0 (hm) ?_
    cases atomOk ⟨n, a⟩ with
    | false =>
      conv => whnf
      exact fin0 rfl trivial
    | true =>
      conv => whnf
      exact fin0 rfl trivial
  | false =>
    rw [Bool.false_or]
    conv => whnf
    cases decide (k = 2) with
    | true =>
      rw [Bool.true_and]
      conv => whnf
      refine call0 (hm) ?_
      cases atomOk ⟨n, a⟩ with
      | false =>
        conv => whnf
        exact fin0 rfl trivial
      | true =>
        conv => whnf
        exact fin0 rfl trivial
    | false =>
      conv => whnf
      exact fin0 rfl trivial
end Go.PV
namespace Go.PV
open Go Go.Proofs
set_option maxRecDepth 100000
theorem aclos_good (l : List Stp) (h : opsB l) : Good Tryz.prog 190 [.sl 5 (stpV l)] [] [.bool (!exprOk l)] [] := by
  refine good_of hP Tryz.func190 (by kernel_rfl) (lv := [0, 2]) (js := []) ⟨rfl, rfl, rfl, rfl, rfl, rfl, _, rfl, ?_⟩
  conv => whnf
  refine call0 (xcheck_good l h) ?_
  cases exprOk l with
  | false =>
    conv => whnf
    exact fin0 rfl trivial
  | true =>
    conv => whnf
    exact fin0 rfl trivial
theorem indexOps_good (l : List (List Stp)) (hl : l.length ≤ 1000000) (g : FuncId) (p : List Stp → Bool) (hg : ∀ t ∈ l, Good Tryz.prog g [.sl 5 (stpV t)] [] [.bool (p t)] []) : Good Tryz.prog 226 [.sl 1 (opsV l), .fn g []] [] [.int .i64 (match l.findIdx? p with | some i => (i : Int) | none => -1)] [] := by
  refine good_of hP Tryz.func226 (by kernel_rfl) (lv := [0, 1, 4, 5, 7, 8, 9, 16]) (js := []) ⟨rfl, rfl, rfl, rfl, rfl, rfl, _, rfl, ?_⟩
  conv => whnf
  refine loop_of hP [0, 1, 4, 5, 7, 8, 9, 16] [] [0, 1, 7, 8] [] [] (fun n st => ∃ k : Nat, n = l.length - k ∧ k ≤ l.length ∧ (∀ j (h : j < l.length), j < k → p l[j] = false) ∧ st = ⟨[(0, .sl 1 (opsV l)), (1, .fn g []), (7, .int .i64 l.length), (8, .int .i64 k)], []⟩) l.length ?_ ?_
  · conv => whnf
    exact ⟨0, rfl, Nat.zero_le _, fun j _ h => by omega, by rw [← List.length_map (f := fun x : List Stp => [V.sl 5 (stpV x)])]; rfl⟩
  · rintro n st ⟨k, rfl, hk, hn, rfl⟩
    conv => whnf
    refine branch_of (fun h => ?_) (fun h => ?_)
    · have h := of_decide_eq_true h
      have hk' : k < l.length := by omega
      conv => whnf
      refine ⟨[.sl 5 (stpV l[k])], idxM hk' rfl, ?_⟩
      conv => whnf
      refine call0 (hg _ (List.getElem_mem hk')) ?_
      cases hp : p l[k] with
      | true =>
        conv => whnf
        refine fin0 ?_ trivial
        have : l.findIdx? p = some k := by
          rw [List.findIdx?_eq_some_iff_getElem]
          exact ⟨hk', hp, fun j hj => by simpa using hn j (by omega) hj⟩
        rw [this]
      | false =>
        conv => whnf
        refine ⟨l.length - (k + 1), by omega, k + 1, rfl, by omega, fun j hj hjk => ?_, ?_⟩
        · by_cases e : j = k
          · subst e; exact hp
          · exact hn j hj (by omega)
        · rw [wr (by omega) (by omega)]; rfl
    · have h := of_decide_eq_false h
      conv => whnf
      refine fin0 ?_ trivial
      have : l.findIdx? p = none := by
        rw [List.findIdx?_eq_none_iff]
        intro x hx
        obtain ⟨j, hj, rfl⟩ := List.getElem_of_mem hx
        exact hn j hj (by omega)
      rw [this]
theorem containsOps_good (l : List (List Stp)) (hl : l.length ≤ 1000000) (g : FuncId) (p : List Stp → Bool) (hg : ∀ t ∈ l, Good Tryz.prog g [.sl 5 (stpV t)] [] [.bool (p t)] []) : Good Tryz.prog 189 [.sl 1 (opsV l), .fn g []] [] [.bool (l.any p)] [] := by
  refine good_of hP Tryz.func189 (by kernel_rfl) (lv := [0, 1, 4]) (js := []) ⟨rfl, rfl, rfl, rfl, rfl, rfl, _, rfl, ?_⟩
  conv => whnf
  refine call0 (indexOps_good l hl g p hg) ?_
  conv => whnf
  exact fin0 (congrArg (fun b : Bool => [V.bool b]) (any_idx l p)) trivial
theorem ract_good (x : Act) (m : Int) (hb : actB x) : Good Tryz.prog 124 [.agg x.c, .int .i64 m] [] [.bool (actOk m x)] [] := by
  obtain ⟨k, n, a, w⟩ := x
  obtain ⟨b1, b2, b3⟩ := hb
  dsimp only at b1 b2 b3
  refine good_of hP Tryz.func124 (by kernel_rfl) (lv := [0, 1, 2, 4, 6, 7, 29]) (js := []) ⟨rfl, rfl, rfl, rfl, rfl, rfl, _, rfl, ?_⟩
  unfold actOk
  dsimp only
  conv => whnf
  refine branch_of (fun h1 => ?_) (fun h1 => ?_)
  · have h1 : k = 1 := of_decide_eq_true h1
    rw [if_pos h1]
    conv => whnf
    refine call0 (fname_good n b1) ?_
    cases nameS n with
    | false =>
      conv => whnf
      exact fin0 rfl trivial
    | true =>
    rw [Bool.true_and]
    conv => whnf
    cases hw : decide (w = 0) with
    | false =>
      conv => whnf
      exact fin0 rfl trivial
    | true =>
    rw [Bool.true_and]
    conv => whnf
    have e : decide ((((opsV a).length : Nat) : Int) ≤ 5) = decide (a.length ≤ 5) := by rw [decide_eq_decide, List.length_map]; omega
    rw [e]
    cases decide (a.length ≤ 5) with
    | false =>
      conv => whnf
      exact fin0 rfl trivial
    | true =>
    rw [Bool.true_and]
    conv => whnf
    refine call0 (containsOps_good a b2 190 (fun l => !exprOk l) (fun t ht => aclos_good t (b3 t ht))) ?_
    conv => whnf
    refine fin0 ?_ trivial
    rw [List.any_eq_not_all_not]
    simp
  have h1 : ¬ k = 1 := of_decide_eq_false h1
  rw [if_neg h1]
  conv => whnf
  refine branch_of (fun h2 => ?_) (fun h2 => ?_)
  · have h2 : k = 2 := of_decide_eq_true h2
    rw [if_pos h2]
    conv => whnf
    cases hn : decide (n = []) with
    | false =>
      conv => whnf
      exact fin0 rfl trivial
    | true =>
    rw [Bool.true_and]
    conv => whnf
    have e : decide ((((opsV a).length : Nat) : Int) = 0) = decide (a = []) := by
      rw [decide_eq_decide, List.length_map]
      exact ⟨fun e => List.eq_nil_of_length_eq_zero (by omega), fun e => by rw [e]; rfl⟩
    rw [e]
    cases decide (a = []) with
    | false =>
      conv => whnf
      exact fin0 rfl trivial
    | true =>
    rw [Bool.true_and]
    conv => whnf
    refine branch_of (fun h3 => ?_) (fun h3 => ?_)
    · have h3 := of_decide_eq_true h3
      conv => whnf
      exact fin0 (by rw [show decide (0 ≤ w ∧ w < m) = decide (w < m) from by rw [decide_eq_decide]; dsimp only at h3; omega]) trivial
    · have h3 := of_decide_eq_false h3
      conv => whnf
      exact fin0 (by rw [decide_eq_false (by dsimp only at h3; omega)]) trivial
  have h2 : ¬ k = 2 := of_decide_eq_false h2
  rw [if_neg h2]
  conv => whnf
  exact fin0 rfl trivial
theorem cclos_good (x : Act) (m : Int) (hb : actB x) : Good Tryz.prog 123 [.agg x.c, .ptr 0 0 0] [.box 0 [.int .i64 m]] [.bool (!actOk m x)] [.box 0 [.int .i64 m]] := by
  refine good_of hP Tryz.func123 (by kernel_rfl) (lv := [0, 1, 2, 3]) (js := []) ⟨rfl, rfl, rfl, rfl, rfl, rfl, _, rfl, ?_⟩
  conv => whnf
  refine call0 (ract_good x m hb) ?_
  conv => whnf
  refine ⟨[], rfl, ?_⟩
  conv => whnf
  exact ⟨⟨⟩, rfl, trivial⟩
end Go.PV
namespace Go.PV
open Go Go.Proofs
set_option maxRecDepth 100000
theorem indexAct_good (l : List Act) (hl : l.length ≤ 1000000) (g : FuncId) (m : Int) (p : Act → Bool) (hg : ∀ t ∈ l, Good Tryz.prog g [.agg t.c, .ptr 0 0 0] [.box 0 [.int .i64 m]] [.bool (p t)] [.box 0 [.int .i64 m]]) : Good Tryz.prog 188 [.sl 4 (actV l), .fn g [.ptr 0 0 0]] [.box 0 [.int .i64 m]] [.int .i64 (match l.findIdx? p with | some i => (i : Int) | none => -1)] [.box 0 [.int .i64 m]] := by
  refine good_of hP Tryz.func188 (by kernel_rfl) (lv := [0, 1, 4, 5, 7, 8, 9, 16]) (js := []) ⟨rfl, rfl, rfl, rfl, rfl, rfl, _, rfl, ?_⟩
  conv => whnf
  refine loop_of hP [0, 1, 4, 5, 7, 8, 9, 16] [] [0, 1, 7, 8] [0] [] (fun n st => ∃ k : Nat, n = l.length - k ∧ k ≤ l.length ∧ (∀ j (h : j < l.length), j < k → p l[j] = false) ∧ st = ⟨[(0, .sl 4 (actV l)), (1, .fn g [.ptr 0 0 0]), (7, .int .i64 l.length), (8, .int .i64 k)], [(0, .box 0 [.int .i64 m])]⟩) l.length ?_ ?_
  · conv => whnf
    exact ⟨0, rfl, Nat.zero_le _, fun j _ h => by omega, by rw [← List.length_map (f := Act.c)]; rfl⟩
  · rintro n st ⟨k, rfl, hk, hn, rfl⟩
    conv => whnf
    refine branch_of (fun h => ?_) (fun h => ?_)
    · have h := of_decide_eq_true h
      have hk' : k < l.length := by omega
      conv => whnf
      refine ⟨Act.c l[k], idxM hk' rfl, ?_⟩
      conv => whnf
      refine callN [(0, 0)] (hg _ (List.getElem_mem hk')) ?_ 
      conv => whnf
      refine ⟨⟨⟩, rfl, ?_⟩
      cases hp : p l[k] with
      | true =>
        have : l.findIdx? p = some k := by
          rw [List.findIdx?_eq_some_iff_getElem]
          exact ⟨hk', hp, fun j hj => by simpa using hn j (by omega) hj⟩
        rw [this]
        conv => whnf
        refine ⟨[], rfl, ?_⟩
        conv => whnf
        exact ⟨⟨⟩, rfl, trivial⟩
      | false =>
        conv => whnf
        refine ⟨l.length - (k + 1), by omega, k + 1, rfl, by omega, fun j hj hjk => ?_, ?_⟩
        · by_cases e : j = k
          · subst e; exact hp
          · exact hn j hj (by omega)
        · rw [wr (by omega) (by omega)]; rfl
    · have h := of_decide_eq_false h
      have : l.findIdx? p = none := by
        rw [List.findIdx?_eq_none_iff]
        intro x hx
        obtain ⟨j, hj, rfl⟩ := List.getElem_of_mem hx
        exact hn j hj (by omega)
      rw [this]
      conv => whnf
      refine ⟨[], rfl, ?_⟩
      conv => whnf
      exact ⟨⟨⟩, rfl, trivial⟩
theorem containsAct_good (l : List Act) (hl : l.length ≤ 1000000) (g : FuncId) (m : Int) (p : Act → Bool) (hg : ∀ t ∈ l, Good Tryz.prog g [.agg t.c, .ptr 0 0 0] [.box 0 [.int .i64 m]] [.bool (p t)] [.box 0 [.int .i64 m]]) : Good Tryz.prog 122 [.sl 4 (actV l), .fn g [.ptr 0 0 0]] [.box 0 [.int .i64 m]] [.bool (l.any p)] [.box 0 [.int .i64 m]] := by
  refine good_of hP Tryz.func122 (by kernel_rfl) (lv := [0, 1, 4]) (js := []) ⟨rfl, rfl, rfl, rfl, rfl, rfl, _, rfl, ?_⟩
  conv => whnf
  refine callN [(0, 0)] (indexAct_good l hl g m p hg) ?_ 
  conv => whnf
  refine ⟨⟨⟩, rfl, ?_⟩
  rw [← any_idx l p]
  conv => whnf
  refine ⟨[], rfl, ?_⟩
  conv => whnf
  exact ⟨⟨⟩, rfl, trivial⟩
theorem hasN_take (l : List Cnd) {k : Nat} (h : k < l.length) : hasN (l.take (k + 1)) = hasN (l.take k) + (if l[k].k = 1 then 1 else 0) := by
  unfold hasN
  rw [← List.take_append_getElem h, List.filter_append, List.length_append]
  congr 1
  by_cases hk : l[k].k = 1
  · simp [hk]
  · simp [hk]
theorem hasN_le (l : List Cnd) : hasN l ≤ l.length := List.length_filter_le _ _
theorem rcheck_good (r : Rul) (hb : rulB r) : Good Tryz.prog 59 [.agg r.v] [] [.int .i64 (if ruleOk r then 0 else 1)] [] := by
  obtain ⟨n, p, c, a⟩ := r
  obtain ⟨b1, b2, b3, b4, b5⟩ := hb
  dsimp only at b1 b2 b3 b4 b5
  refine good_of hP Tryz.func59 (by kernel_rfl) (lv := [0, 1, 2, 3, 5, 51, 53, 54, 55, 56, 61, 64, 71]) (js := []) ⟨rfl, rfl, rfl, rfl, rfl, rfl, _, rfl, ?_⟩
  unfold ruleOk
  dsimp only
  conv => whnf
  refine call0 (fname_good n b1) ?_
  cases nameS n with
  | false =>
    conv => whnf
    exact fin0 rfl trivial
  | true =>
  rw [Bool.true_and]
  conv => whnf
  refine branch_of (fun h1 => ?_) (fun h1 => ?_)
  · have h1 := of_decide_eq_true h1
    have e : decide (-1000 ≤ p ∧ p ≤ 1000) = false := decide_eq_false (by dsimp only at h1; omega)
    rw [e]
    conv => whnf
    exact fin0 rfl trivial
  have h1 := of_decide_eq_false h1
  conv => whnf
  refine branch_of (fun h2 => ?_) (fun h2 => ?_)
  · have h2 := of_decide_eq_true h2
    have e : decide (-1000 ≤ p ∧ p ≤ 1000) = false := decide_eq_false (by dsimp only at h2; omega)
    rw [e]
    conv => whnf
    exact fin0 rfl trivial
  have h2 := of_decide_eq_false h2
  have e : decide (-1000 ≤ p ∧ p ≤ 1000) = true := decide_eq_true (by dsimp only at h1 h2; omega)
  rw [e, Bool.true_and]
  conv => whnf
  refine branch_of (fun h3 => ?_) (fun h3 => ?_)
  · have h3 := of_decide_eq_true h3
    rw [List.length_map] at h3
    have e : decide (1 ≤ c.length ∧ c.length ≤ 6) = false := decide_eq_false (by dsimp only at h3; omega)
    rw [e]
    conv => whnf
    exact fin0 rfl trivial
  have h3 := of_decide_eq_false h3
  rw [List.length_map] at h3
  conv => whnf
  refine branch_of (fun h4 => ?_) (fun h4 => ?_)
  · have h4 := of_decide_eq_true h4
    rw [List.length_map] at h4
    have e : decide (1 ≤ c.length ∧ c.length ≤ 6) = false := decide_eq_false (by dsimp only at h4; omega)
    rw [e]
    conv => whnf
    exact fin0 rfl trivial
  have h4 := of_decide_eq_false h4
  rw [List.length_map] at h4
  dsimp only at h3 h4
  have e : decide (1 ≤ c.length ∧ c.length ≤ 6) = true := decide_eq_true (by omega)
  rw [e, Bool.true_and]
  have h0 : 0 < c.length := by omega
  have e0 : headK c = c[0].k := by cases c with
    | nil => simp at h0
    | cons x r => rfl
  rw [e0]
  conv => whnf
  refine ⟨Cnd.c c[0], idxM h0 rfl, ?_⟩
  conv => whnf
  refine branch_of (fun h5 => ?_) (fun h5 => ?_)
  · rw [Bool.not_eq_true'] at h5
    have h5 : decide (c[0].k = 1) = false := h5
    rw [h5]
    conv => whnf
    exact fin0 rfl trivial
  rw [Bool.not_eq_false'] at h5
  have h5 : decide (c[0].k = 1) = true := h5
  rw [h5, Bool.true_and]
  conv => whnf
  refine branch_of (fun h6 => ?_) (fun h6 => ?_)
  · have h6 := of_decide_eq_true h6
    rw [List.length_map] at h6
    have e : decide (1 ≤ a.length ∧ a.length ≤ 6) = false := decide_eq_false (by dsimp only at h6; omega)
    rw [e]
    conv => whnf
    exact fin0 rfl trivial
  have h6 := of_decide_eq_false h6
  rw [List.length_map] at h6
  conv => whnf
  refine branch_of (fun h7 => ?_) (fun h7 => ?_)
  · have h7 := of_decide_eq_true h7
    rw [List.length_map] at h7
    have e : decide (1 ≤ a.length ∧ a.length ≤ 6) = false := decide_eq_false (by dsimp only at h7; omega)
    rw [e]
    conv => whnf
    exact fin0 rfl trivial
  have h7 := of_decide_eq_false h7
  rw [List.length_map] at h7
  dsimp only at h6 h7
  have e : decide (1 ≤ a.length ∧ a.length ≤ 6) = true := decide_eq_true (by omega)
  rw [e, Bool.true_and]
  conv => whnf
  refine loop_of hP [0, 1, 2, 3, 5, 51, 53, 54, 55, 56, 61, 64, 71] [] [1, 2, 3, 53, 54, 55] [65, 67] [] (fun m st => ∃ k : Nat, m = c.length - k ∧ k ≤ c.length ∧ c.all condOk = (c.drop k).all condOk ∧ st = ⟨[(1, .ptr 65 0 0), (2, .int .i64 0), (3, .ptr 67 0 0), (53, .sl 6 (cndV c)), (54, .int .i64 c.length), (55, .int .i64 k)], [(65, .box 0 (Rul.v ⟨n, p, c, a⟩)), (67, .box 0 [.int .i64 (hasN (c.take k))])]⟩) c.length ?_ ?_
  · conv => whnf
    exact ⟨0, rfl, Nat.zero_le _, rfl, by rw [← List.length_map (f := Cnd.c)]; rfl⟩
  · rintro m st ⟨k, rfl, hk, he, rfl⟩
    conv => whnf
    refine branch_of (fun h => ?_) (fun h => ?_)
    · have h := of_decide_eq_true h
      have hk' : k < c.length := by omega
      rw [List.drop_eq_getElem_cons hk', List.all_cons] at he
      have hht := hasN_take c hk'
      have hhl := hasN_le (c.take k)
      rw [List.length_take] at hhl
      conv => whnf
      refine ⟨Cnd.c c[k], idxM hk' rfl, ?_⟩
      conv => whnf
      refine call0 (rcond_good c[k] (b3 _ (List.getElem_mem hk'))) ?_
      cases hc : condOk c[k] with
      | false =>
        rw [hc, Bool.false_and] at he
        rw [he]
        conv => whnf
        exact fin0 rfl trivial
      | true =>
        rw [hc, Bool.true_and] at he
        conv => whnf
        refine branch_of (fun g => ?_) (fun g => ?_)
        · have g : c[k].k = 1 := of_decide_eq_true g
          rw [if_pos g] at hht
          conv => whnf
          refine ⟨c.length - (k + 1), by omega, k + 1, rfl, by omega, he, ?_⟩
          rw [hht, wr (by omega) (by omega), wr (by omega) (by omega)]; rfl
        · have g : ¬ c[k].k = 1 := of_decide_eq_false g
          rw [if_neg g, Nat.add_zero] at hht
          conv => whnf
          refine ⟨c.length - (k + 1), by omega, k + 1, rfl, by omega, he, ?_⟩
          rw [hht, wr (by omega) (by omega)]; rfl
    · have h := of_decide_eq_false h
      have hd : c.drop k = [] := List.drop_eq_nil_iff.2 (by omega)
      rw [hd] at he
      rw [he, List.take_of_length_le (by omega), show (([] : List Cnd).all condOk) = true from rfl, Bool.true_and]
      conv => whnf
      refine callN [(67, 0)] (containsAct_good a b4 123 (hasN c) (fun x => !actOk (hasN c) x) (fun t ht => cclos_good t (hasN c) (b5 t ht))) ?_ 
      conv => whnf
      refine ⟨⟨⟩, rfl, ?_⟩
      have e9 : (a.any fun x => !actOk (hasN c) x) = !(a.all (actOk (hasN c))) := by rw [List.any_eq_not_all_not]; simp
      rw [e9]
      cases a.all (actOk (hasN c)) with
      | true =>
        conv => whnf
        exact fin0 rfl trivial
      | false =>
        conv => whnf
        exact fin0 rfl trivial
end Go.PV
namespace Go.PV
open Go Go.Proofs
set_option maxRecDepth 100000
theorem wk1 : toksR [112, 40, 88, 44, 45, 49, 41] = [⟨1, [112], (1, 1)⟩, ⟨5, [40], (1, 2)⟩, ⟨2, [88], (1, 3)⟩, ⟨5, [44], (1, 4)⟩, ⟨3, [45, 49], (1, 5)⟩, ⟨5, [41], (1, 7)⟩] := by kernel_rfl
theorem wk1p : posR [112, 40, 88, 44, 45, 49, 41] = (0, 0) := by kernel_rfl
theorem wk1e : errR [112, 40, 88, 44, 45, 49, 41] = 0 := by kernel_rfl
theorem wk2 : toksR [97, 10, 32, 63] = [] := by kernel_rfl
theorem wk2p : posR [97, 10, 32, 63] = (2, 2) := by kernel_rfl
theorem wk2e : errR [97, 10, 32, 63] = 6 := by kernel_rfl
end Go.PV
namespace Go.PV
open Go Go.Proofs
set_option maxRecDepth 100000
theorem atomText_good (a : Atm) (h : atmB a) : Good Tryz.prog 88 [.agg a.c] [] [.str (if atomOk a then atomT a else []), .int .i64 (if atomOk a then 0 else 1)] [] := by
  refine good_of hP Tryz.func88 (by kernel_rfl) (lv := [0, 1, 2, 3, 4, 5, 7, 11, 14, 15, 16, 17, 28]) (js := []) ⟨rfl, rfl, rfl, rfl, rfl, rfl, _, rfl, ?_⟩
  conv => whnf
  refine call0 (mcheck_good a h) ?_
  cases hk : atomOk a with
  | false =>
    conv => whnf
    exact fin0 rfl trivial
  | true =>
    have hl : a.a.length ≤ 5 := by unfold atomOk at hk; simp at hk; exact hk.1.2
    have hok : ∀ t ∈ a.a, termOk t = true := by unfold atomOk at hk; simp at hk; exact hk.2
    have hn : a.n.length ≤ 1000000 := h.1
    conv => whnf
    refine loop_of hP [0, 1, 2, 3, 4, 5, 7, 11, 14, 15, 16, 17, 28] [] [1, 5, 14, 15, 16] [65, 69] [.slot 5 1] (fun n st => ∃ k : Nat, n = a.a.length - k ∧ k ≤ a.a.length ∧ st = ⟨[(1, .ptr 65 0 0), (5, .own 69 0), (14, .sl 4 (trmV a.a)), (15, .int .i64 a.a.length), (16, .int .i64 k)], [(65, .box 0 [.str a.n, .sl 4 (trmV a.a)]), (69, .arr 0 false 1 (strV ((a.a.take k).map termT)))]⟩) a.a.length ?_ ?_
    · conv => whnf
      exact ⟨0, rfl, Nat.zero_le _, by rw [← List.length_map (f := Trm.c)]; rfl⟩
    · rintro n st ⟨k, rfl, hkl, rfl⟩
      conv => whnf
      refine branch_of (fun h1 => ?_) (fun h1 => ?_)
      · have h1 := of_decide_eq_true h1
        have hk' : k < a.a.length := by omega
        conv => whnf
        refine ⟨Trm.c a.a[k], idxM hk' rfl, ?_⟩
        conv => whnf
        refine call0 (term_good a.a[k] (h.2.2 _ (List.getElem_mem hk'))) ?_
        conv => whnf
        refine ⟨⟨⟩, by dsimp only; simp only [List.length_map, List.length_take, List.length_cons, List.length_nil]; omega, ?_⟩
        conv => whnf
        refine ⟨a.a.length - (k + 1), by omega, k + 1, rfl, by omega, ?_⟩
        rw [wr (by omega) (by omega), map_snoc _ a.a hk', show strV ((a.a.take k).map termT ++ [termT a.a[k]]) = strV ((a.a.take k).map termT) ++ [[.str (termT a.a[k])]] from List.map_append]
        rfl
      · have h1 := of_decide_eq_false h1
        have : k = a.a.length := by omega
        subst this
        rw [List.take_length]
        have hjl : (Lib.join (a.a.map termT) [44, 32]).length ≤ 1000000 := by
          by_cases hz : a.a = []
          · rw [hz]; exact Nat.zero_le _
          · have e := congrArg List.length (atomT_join hz)
            have := atomT_len hk
            simp only [List.length_append] at e
            omega
        conv => whnf
        refine branch_of (fun h2 => ?_) (fun h2 => ?_)
        · have h2 := of_decide_eq_true h2
          rw [List.length_map, List.length_map] at h2
          have hz : a.a = [] := List.eq_nil_of_length_eq_zero (by omega)
          conv => whnf
          exact fin0 (by rw [if_pos rfl, if_pos rfl, atomT_nil hz]) trivial
        · have h2 := of_decide_eq_false h2
          rw [List.length_map, List.length_map] at h2
          have hz : a.a ≠ [] := fun e => by rw [e] at h2; exact h2 rfl
          conv => whnf
          refine ⟨⟨⟩, by dsimp only; simp only [List.length_cons, List.length_nil]; omega, ?_⟩
          conv => whnf
          refine call0 (join_good (a.a.map termT) [44, 32] (by simp; omega) (by omega)) ?_
          conv => whnf
          refine ⟨⟨⟩, by dsimp only; simp only [List.length_append, List.length_cons, List.length_nil]; omega, ?_⟩
          conv => whnf
          refine ⟨⟨⟩, by dsimp only; simp only [List.length_append, List.length_cons, List.length_nil]; omega, ?_⟩
          conv => whnf
          refine ⟨by kernel_rfl, ?_⟩
          conv => whnf
          exact fin0 (by rw [if_pos rfl, if_pos rfl, ← atomT_join hz]) trivial
theorem pA : parseA [112, 40, 88, 44, 32, 49, 44, 32, 34, 97, 34, 41] = (⟨[112], [⟨[88], zeroV⟩, ⟨[], ⟨1, 1, []⟩⟩, ⟨[], ⟨3, 0, [97]⟩⟩]⟩, 0) := by decide +kernel
def wkT : Bs := [40, 88, 32, 43, 32, 40, 50, 32, 42, 32, 89, 41, 41, 32, 122]
def wkX : List Stp := [⟨1, [88], zeroV⟩, ⟨2, [], ⟨1, 2, []⟩⟩, ⟨1, [89], zeroV⟩, ⟨5, [], zeroV⟩, ⟨3, [], zeroV⟩]
theorem pX : readX (toksR wkT) 0 = (wkX, 9, 0) := by decide +kernel
theorem pXe : errR wkT = 0 := by decide +kernel
theorem pXa : readA (toksR wkT) 0 = (zeroA, 0, 7) := by decide +kernel
theorem pT : exprOk wkX = true ∧ exprT wkX = [40, 88, 32, 43, 32, 40, 50, 32, 42, 32, 89, 41, 41] := by decide +kernel
theorem pU : atomOk ⟨[112], [⟨[88], zeroV⟩, ⟨[], ⟨1, 1, []⟩⟩, ⟨[], ⟨3, 0, [97]⟩⟩]⟩ = true ∧ atomT ⟨[112], [⟨[88], zeroV⟩, ⟨[], ⟨1, 1, []⟩⟩, ⟨[], ⟨3, 0, [97]⟩⟩]⟩ = [112, 40, 88, 44, 32, 49, 44, 32, 34, 97, 34, 41] := by decide +kernel
theorem wkB : atmB ⟨[112], [⟨[88], zeroV⟩, ⟨[], ⟨1, 1, []⟩⟩, ⟨[], ⟨3, 0, [97]⟩⟩]⟩ := ⟨by decide, by decide, fun t ht => by
  simp only [List.mem_cons, List.mem_nil_iff, or_false] at ht
  rcases ht with rfl | rfl | rfl <;> exact ⟨by decide, by decide⟩⟩
theorem wkXB : opsB wkX := ⟨by decide, fun t ht => by
  simp only [wkX, List.mem_cons, List.mem_nil_iff, or_false] at ht
  rcases ht with rfl | rfl | rfl | rfl | rfl <;> exact ⟨by decide, by decide⟩⟩
end Go.PV
namespace Go.PV
open Go Go.Proofs
set_option maxRecDepth 100000
theorem ways_good : Good Tryz.prog 171 [] [] [.sl 1 (strV wayL)] [] := by
  refine good_of hP Tryz.func171 (by kernel_rfl) (lv := [0]) (js := []) ⟨rfl, rfl, rfl, rfl, rfl, rfl, _, rfl, ?_⟩
  conv => whnf
  exact fin0 rfl trivial
theorem condText_good (c : Cnd) (hb : cndB c) (hk : condOk c = true) : Good Tryz.prog 109 [.agg c.c] [] [.str (condT c)] [] := by
  have h3 := condOk_3 hk
  have hn := condOk_n hk
  obtain ⟨k, a, h, l, r⟩ := c
  obtain ⟨b1, b2, b3, b4, b5, b6, b7⟩ := hb
  dsimp only at b1 b2 b3 b4 b5 b6 b7 h3 hn
  refine good_of hP Tryz.func109 (by kernel_rfl) (lv := [0, 1, 2, 3, 5, 7, 11, 46]) (js := []) ⟨rfl, rfl, rfl, rfl, rfl, rfl, _, rfl, ?_⟩
  unfold condT
  dsimp only
  conv => whnf
  refine branch_of (fun h1 => ?_) (fun h1 => ?_)
  · have h1 : k = 3 := of_decide_eq_true h1
    rw [if_pos h1]
    obtain ⟨_, q1, q2, q3, q4⟩ := h3 h1
    have l1 := exprT_len q3
    have l2 := exprT_len q4
    have l3 := wayT_len h
    conv => whnf
    refine call0 (exprText_good l ⟨b4, b5⟩) ?_
    rw [q3, if_pos rfl]
    conv => whnf
    refine call0 (exprText_good r ⟨b6, b7⟩) ?_
    rw [q4, if_pos rfl]
    conv => whnf
    refine ⟨⟨⟩, by show 1 + (exprT l).length ≤ 9223372036854775807; omega, ?_⟩
    conv => whnf
    refine ⟨⟨⟩, by show (([91] : Bs) ++ exprT l).length + 1 ≤ 9223372036854775807; simp only [List.length_append, List.length_cons, List.length_nil]; omega, ?_⟩
    conv => whnf
    refine call0 (ways_good) ?_
    obtain ⟨j, hj⟩ : ∃ j : Nat, h = j + 1 := ⟨(h - 1).toNat, by omega⟩
    have hjl : j < wayL.length := by show j < 4; omega
    have hw : IntKind.i64.wrap (h - 1) = (j : Int) := by rw [wr (by omega) (by omega)]; omega
    have hwt : wayL[j] = wayT h := by
      unfold wayT
      rw [show (h - 1).toNat = j by omega]
      exact List.getElem_eq_getD _
    conv => whnf
    have hw' : IntKind.i64.wrap (Cnd.h ⟨k, a, h, l, r⟩ - 1) = (j : Int) := hw
    rw [hw']
    refine ⟨[.str (wayT h)], by rw [← hwt]; exact idxM (f := fun t : Bs => [V.str t]) hjl rfl, ?_⟩
    conv => whnf
    generalize wayT h = w at *
    refine ⟨⟨⟩, by show (([91] : Bs) ++ exprT l ++ [32]).length + w.length ≤ 9223372036854775807; simp only [List.length_append, List.length_cons, List.length_nil]; omega, ?_⟩
    conv => whnf
    refine ⟨⟨⟩, by show (([91] : Bs) ++ exprT l ++ [32] ++ w).length + 1 ≤ 9223372036854775807; simp only [List.length_append, List.length_cons, List.length_nil]; omega, ?_⟩
    conv => whnf
    refine ⟨⟨⟩, by show (([91] : Bs) ++ exprT l ++ [32] ++ w ++ [32]).length + (exprT r).length ≤ 9223372036854775807; simp only [List.length_append, List.length_cons, List.length_nil]; omega, ?_⟩
    conv => whnf
    refine ⟨⟨⟩, by show (([91] : Bs) ++ exprT l ++ [32] ++ w ++ [32] ++ exprT r).length + 1 ≤ 9223372036854775807; simp only [List.length_append, List.length_cons, List.length_nil]; omega, ?_⟩
    conv => whnf
    refine ⟨by kernel_rfl, ?_⟩
    conv => whnf
    exact fin0 rfl trivial
  have h1 : ¬ k = 3 := of_decide_eq_false h1
  rw [if_neg h1]
  obtain ⟨_, _, _, _, q1⟩ := hn h1
  have l1 := atomT_len q1
  conv => whnf
  refine call0 (atomText_good a ⟨b1, b2, b3⟩) ?_
  rw [q1, if_pos rfl]
  conv => whnf
  refine branch_of (fun h2 => ?_) (fun h2 => ?_)
  · have h2 : k = 2 := of_decide_eq_true h2
    rw [if_pos h2]
    conv => whnf
    refine ⟨⟨⟩, by show 4 + (atomT a).length ≤ 9223372036854775807; omega, ?_⟩
    conv => whnf
    exact fin0 rfl trivial
  · have h2 : ¬ k = 2 := of_decide_eq_false h2
    rw [if_neg h2]
    conv => whnf
    exact fin0 rfl trivial
theorem actText_good (x : Act) (m : Int) (hm : m ≤ 1000) (hb : actB x) (hk : actOk m x = true) : Good Tryz.prog 110 [.agg x.c] [] [.str (actT x)] [] := by
  have h2 := actOk_2 hk
  have h1 := actOk_1 hk
  have hal := actT_len hm hk
  obtain ⟨k, n, a, w⟩ := x
  obtain ⟨b1, b2, b3⟩ := hb
  dsimp only at b1 b2 b3 h1 h2
  refine good_of hP Tryz.func110 (by kernel_rfl) (lv := [0, 1, 2, 3, 5, 6, 10, 16, 17, 18, 19, 34]) (js := []) ⟨rfl, rfl, rfl, rfl, rfl, rfl, _, rfl, ?_⟩
  unfold actT at hal ⊢
  dsimp only at hal ⊢
  conv => whnf
  refine branch_of (fun g => ?_) (fun g => ?_)
  · have g : k = 2 := of_decide_eq_true g
    rw [if_pos g] at hal ⊢
    obtain ⟨_, _, q1, q2⟩ := h2 g
    conv => whnf
    refine call0 (itoa_good w (by omega) (by omega)) ?_
    rw [List.length_append] at hal
    conv => whnf
    refine ⟨⟨⟩, by show 5 + (Lib.itoa w).length ≤ 9223372036854775807; omega, ?_⟩
    conv => whnf
    exact fin0 rfl trivial
  have g : ¬ k = 2 := of_decide_eq_false g
  rw [if_neg g] at hal ⊢
  obtain ⟨_, q1, q2, q3, q4⟩ := h1 g
  conv => whnf
  refine loop_of hP [0, 1, 2, 3, 5, 6, 10, 16, 17, 18, 19, 34] [] [1, 2, 3, 16, 17, 18] [65, 67] [.slot 3 1] (fun mm st => ∃ i : Nat, mm = a.length - i ∧ i ≤ a.length ∧ st = ⟨[(1, .ptr 65 0 0), (2, .str []), (3, .own 67 0), (16, .sl 1 (opsV a)), (17, .int .i64 a.length), (18, .int .i64 i)], [(65, .box 0 (Act.c ⟨k, n, a, w⟩)), (67, .arr 0 false 1 (strV ((a.take i).map exprT)))]⟩) a.length ?_ ?_
  · conv => whnf
    exact ⟨0, rfl, Nat.zero_le _, by rw [← List.length_map (f := fun x : List Stp => [V.sl 5 (stpV x)])]; rfl⟩
  · rintro mm st ⟨i, rfl, hi, rfl⟩
    conv => whnf
    refine branch_of (fun h => ?_) (fun h => ?_)
    · have h := of_decide_eq_true h
      have hi' : i < a.length := by omega
      have hok : exprOk a[i] = true := List.all_eq_true.1 q4 _ (List.getElem_mem hi')
      conv => whnf
      refine ⟨[.sl 5 (stpV a[i])], idxM hi' rfl, ?_⟩
      conv => whnf
      refine call0 (exprText_good a[i] (b3 _ (List.getElem_mem hi'))) ?_
      rw [hok, if_pos rfl]
      conv => whnf
      refine ⟨⟨⟩, by dsimp only; simp only [List.length_map, List.length_take, List.length_cons, List.length_nil]; omega, ?_⟩
      conv => whnf
      refine ⟨a.length - (i + 1), by omega, i + 1, rfl, by omega, ?_⟩
      rw [wr (by omega) (by omega), map_snoc _ a hi', show strV ((a.take i).map exprT ++ [exprT a[i]]) = strV ((a.take i).map exprT) ++ [[.str (exprT a[i])]] from List.map_append]
      rfl
    · have h := of_decide_eq_false h
      rw [List.take_of_length_le (by omega)]
      conv => whnf
      refine branch_of (fun h5 => ?_) (fun h5 => ?_)
      · have h5 := of_decide_eq_true h5
        rw [List.length_map, List.length_map] at h5
        have hz : a = [] := List.eq_nil_of_length_eq_zero (by omega)
        rw [if_pos hz]
        conv => whnf
        refine ⟨⟨⟩, by show 1 + n.length ≤ 9223372036854775807; omega, ?_⟩
        conv => whnf
        exact fin0 rfl trivial
      · have h5 := of_decide_eq_false h5
        rw [List.length_map, List.length_map] at h5
        have hz : a ≠ [] := fun e => by rw [e] at h5; exact h5 rfl
        rw [if_neg hz] at hal ⊢
        simp only [List.length_append, List.length_cons, List.length_nil] at hal
        conv => whnf
        refine ⟨⟨⟩, by show 1 + n.length ≤ 9223372036854775807; omega, ?_⟩
        conv => whnf
        refine ⟨⟨⟩, by show (([43] : Bs) ++ n).length + 1 ≤ 9223372036854775807; simp only [List.length_append, List.length_cons, List.length_nil]; omega, ?_⟩
        conv => whnf
        refine call0 (join_good (a.map exprT) [44, 32] (by simp; omega) (by omega)) ?_
        conv => whnf
        refine ⟨⟨⟩, by show (([43] : Bs) ++ n ++ [40]).length + (Lib.join (a.map exprT) [44, 32]).length ≤ 9223372036854775807; simp only [List.length_append, List.length_cons, List.length_nil]; omega, ?_⟩
        conv => whnf
        refine ⟨⟨⟩, by show (([43] : Bs) ++ n ++ [40] ++ Lib.join (a.map exprT) [44, 32]).length + 1 ≤ 9223372036854775807; simp only [List.length_append, List.length_cons, List.length_nil]; omega, ?_⟩
        conv => whnf
        refine ⟨by kernel_rfl, ?_⟩
        conv => whnf
        exact fin0 rfl trivial
end Go.PV
namespace Go.PV
open Go
/-! the program's reader of rules -/
namespace Rd
def way (r : Rd) : Int × Rd :=
  if r.see 5 [61] then (1, r.step) else if r.see 5 [33, 61] then (2, r.step) else if r.see 5 [60] then (3, r.step) else if r.see 5 [60, 61] then (4, r.step) else (0, if r.isOpen then r.fail else r)
def condR (r : Rd) : Cnd × Rd :=
  if r.see 5 [91] then
    let a := r.step.expr
    let w := a.2.way
    let b := w.2.expr
    (⟨3, zeroA, w.1, a.1, b.1⟩, b.2.want 5 [93])
  else if r.see 1 [110, 111, 116] then let a := r.step.atom; (⟨2, a.1, 0, [], []⟩, a.2)
  else let a := r.atom; (⟨1, a.1, 0, [], []⟩, a.2)
/-- more of them, behind commas -/
def many {α : Type} (g : Rd → α × Rd) : Nat → Rd → List α × Rd
  | 0, r => ([], r)
  | f + 1, r => if r.see 5 [44] then ((g r.step).1 :: (many g f (g r.step).2).1, (many g f (g r.step).2).2) else ([], r)
def back (r : Rd) : Rd := { r with i := r.i - 1, bad := true }
def actR (r : Rd) : Act × Rd :=
  if r.see 1 [100, 114, 111, 112] then
    let x := r.step.num
    (⟨2, [], [], x.1⟩, if x.2.isOpen && decide (x.1 < 0) then x.2.back else x.2)
  else
    let x := (r.want 5 [43]).name
    if x.2.see 5 [40] then
      let a := x.2.step.expr
      let b := many expr r.l.length a.2
      (⟨1, x.1, (a.1 :: b.1).take 6, 0⟩, b.2.want 5 [41])
    else (⟨1, x.1, [], 0⟩, x.2)
def rule (r : Rd) : Rul × Rd :=
  let n := (r.want 1 [114, 117, 108, 101]).name
  let p := n.2.num
  let c := (p.2.want 5 [58]).condR
  let d := many condR r.l.length c.2
  let a := (d.2.want 5 [45, 62]).actR
  let b := many actR r.l.length a.2
  (⟨n.1, p.1, (c.1 :: d.1).take 7, (a.1 :: b.1).take 7⟩, b.2.want 5 [46])
theorem num_up {r : Rd} (h : r.num.2.isOpen = true) : r.num.2.i = r.i + 1 := by
  unfold num at *
  split
  · rename_i ho
    rw [if_pos ho] at h
    split
    · rename_i x hx
      rw [hx] at h
      dsimp only at h
      split
      · rfl
      · rename_i hv; rw [hv] at h; simp [isOpen, fail] at h
    · rename_i hx
      rw [hx] at h; simp [isOpen, fail] at h
  · rename_i ho
    rw [if_neg ho] at h
    exact absurd h ho
theorem way_l (r : Rd) : r.way.2.l = r.l ∧ r.i ≤ r.way.2.i := by
  unfold way
  split
  · exact ⟨rfl, Nat.le_succ _⟩
  · split
    · exact ⟨rfl, Nat.le_succ _⟩
    · split
      · exact ⟨rfl, Nat.le_succ _⟩
      · split
        · exact ⟨rfl, Nat.le_succ _⟩
        · dsimp only
          split
          · exact ⟨rfl, Nat.le_refl _⟩
          · exact ⟨rfl, Nat.le_refl _⟩
theorem condR_l (r : Rd) : r.condR.2.l = r.l ∧ r.i ≤ r.condR.2.i := by
  unfold condR
  split
  · have h1 := expr_l r.step
    have h2 := way_l r.step.expr.2
    have h3 := expr_l r.step.expr.2.way.2
    have h4 := want_l r.step.expr.2.way.2.expr.2 5 [93]
    have e : r.step.l = r.l ∧ r.step.i = r.i + 1 := ⟨rfl, rfl⟩
    dsimp only
    exact ⟨by rw [h4.1, h3.1, h2.1, h1.1, e.1], by omega⟩
  · split
    · have h1 := atom_l r.step
      have e : r.step.l = r.l ∧ r.step.i = r.i + 1 := ⟨rfl, rfl⟩
      dsimp only
      exact ⟨by rw [h1.1, e.1], by omega⟩
    · have h1 := atom_l r
      exact h1
theorem many_l {α : Type} {g : Rd → α × Rd} (hg : ∀ r, (g r).2.l = r.l ∧ r.i ≤ (g r).2.i) : ∀ (f : Nat) (r : Rd), (many g f r).2.l = r.l ∧ r.i ≤ (many g f r).2.i
  | 0, r => ⟨rfl, Nat.le_refl _⟩
  | f + 1, r => by
    rw [many]
    split
    · have h1 := hg r.step
      have h2 := many_l hg f (g r.step).2
      have e : r.step.l = r.l ∧ r.step.i = r.i + 1 := ⟨rfl, rfl⟩
      dsimp only
      exact ⟨by rw [h2.1, h1.1, e.1], by omega⟩
    · exact ⟨rfl, Nat.le_refl _⟩
theorem actR_l (r : Rd) : r.actR.2.l = r.l ∧ r.i ≤ r.actR.2.i := by
  unfold actR
  split
  · have h1 := num_l r.step
    have e : r.step.l = r.l ∧ r.step.i = r.i + 1 := ⟨rfl, rfl⟩
    dsimp only
    split
    · exact ⟨by show r.step.num.2.l = _; rw [h1.1, e.1], by show r.i ≤ r.step.num.2.i - 1; omega⟩
    · exact ⟨by rw [h1.1, e.1], by omega⟩
  · have h0 := want_l r 5 [43]
    have h1 := name_l (r.want 5 [43])
    dsimp only
    split
    · have h2 := expr_l (r.want 5 [43]).name.2.step
      have h3 := many_l expr_l r.l.length (r.want 5 [43]).name.2.step.expr.2
      have h4 := want_l (many expr r.l.length (r.want 5 [43]).name.2.step.expr.2).2 5 [41]
      have e : (r.want 5 [43]).name.2.step.l = (r.want 5 [43]).name.2.l ∧ (r.want 5 [43]).name.2.step.i = (r.want 5 [43]).name.2.i + 1 := ⟨rfl, rfl⟩
      dsimp only
      exact ⟨by rw [h4.1, h3.1, h2.1, e.1, h1.1, h0.1], by omega⟩
    · exact ⟨by rw [h1.1, h0.1], by show r.i ≤ (r.want 5 [43]).name.2.i; omega⟩
end Rd
def zeroR : Rul := ⟨[], 0, [], []⟩
def readR (l : List Tok) (i : Nat) : Rul × Nat × Int :=
  let x := (rd0 l i).rule
  if x.2.endE = 0 then (if ruleOk x.1 then (x.1, x.2.endI i, 0) else (zeroR, i, 7)) else (zeroR, x.2.endI i, 7)
def parseR (s : Bs) : Rul × Int :=
  if errR s = 0 then
    let x := readR (toksR s) 0
    if x.2.2 = 0 ∧ ¬ x.2.1 < (toksR s).length then (x.1, 0) else (zeroR, 7)
  else (zeroR, errR s)
end Go.PV
namespace Go.PV
open Go Go.Proofs
set_option maxRecDepth 100000
theorem rtext_good (r : Rul) (hb : rulB r) : Good Tryz.prog 52 [.agg r.v] [] [.str (ruleX r), .int .i64 (ruleE r)] [] := by
  obtain ⟨b1, b2, b3, b4, b5⟩ := hb
  refine good_of hP Tryz.func52 (by kernel_rfl) (lv := [0, 1, 2, 3, 4, 5, 6, 8, 10, 11, 15, 18, 19, 20, 21, 31, 32, 33, 34, 62]) (js := []) ⟨rfl, rfl, rfl, rfl, rfl, rfl, _, rfl, ?_⟩
  conv => whnf
  refine call0 (rcheck_good r ⟨b1, b2, b3, b4, b5⟩) ?_
  unfold ruleX ruleE
  cases hk : ruleOk r with
  | false =>
    conv => whnf
    exact fin0 rfl trivial
  | true =>
  rw [if_pos rfl, if_pos rfl]
  obtain ⟨h1, h2, h3, h4, h5, h6, h7, h8, h9, h10⟩ := ruleOk_all hk
  obtain ⟨l1, l2, l3, l4, l5⟩ := ruleT_len hk
  have hh := hasN_len r.c
  obtain ⟨n, p, c, a⟩ := r
  dsimp only at b1 b2 b3 b4 b5 h1 h2 h3 h4 h5 h6 h7 h8 h9 h10 l2 l3 l4 l5 hh
  conv => whnf
  refine loop_of hP [0, 1, 2, 3, 4, 5, 6, 8, 10, 11, 15, 18, 19, 20, 21, 31, 32, 33, 34, 62] [] [1, 2, 3, 5, 6, 18, 19, 20] [65, 69] [.slot 5 1] (fun mm st => ∃ i : Nat, mm = c.length - i ∧ i ≤ c.length ∧ st = ⟨[(1, .ptr 65 0 0), (2, .str []), (3, .int .i64 0), (5, .own 69 0), (6, .nil), (18, .sl 6 (cndV c)), (19, .int .i64 c.length), (20, .int .i64 i)], [(65, .box 0 (Rul.v ⟨n, p, c, a⟩)), (69, .arr 0 false 1 (strV ((c.take i).map condT)))]⟩) c.length ?_ ?_
  · conv => whnf
    exact ⟨0, rfl, Nat.zero_le _, by rw [← List.length_map (f := Cnd.c)]; rfl⟩
  · rintro mm st ⟨i, rfl, hi, rfl⟩
    conv => whnf
    refine branch_of (fun h => ?_) (fun h => ?_)
    · have h := of_decide_eq_true h
      have hi' : i < c.length := by omega
      have hm := List.getElem_mem hi'
      conv => whnf
      refine ⟨Cnd.c c[i], idxM hi' rfl, ?_⟩
      conv => whnf
      refine call0 (condText_good c[i] (b3 _ hm) (h9 _ hm)) ?_
      conv => whnf
      refine ⟨⟨⟩, by dsimp only; simp only [List.length_map, List.length_take, List.length_cons, List.length_nil]; omega, ?_⟩
      conv => whnf
      refine ⟨c.length - (i + 1), by omega, i + 1, rfl, by omega, ?_⟩
      rw [wr (by omega) (by omega), map_snoc _ c hi', show strV ((c.take i).map condT ++ [condT c[i]]) = strV ((c.take i).map condT) ++ [[.str (condT c[i])]] from List.map_append]
      rfl
    · have h := of_decide_eq_false h
      rw [List.take_of_length_le (by omega)]
      conv => whnf
      refine loop_of hP [0, 1, 2, 3, 4, 5, 6, 8, 10, 11, 15, 18, 19, 20, 21, 31, 32, 33, 34, 62] [] [1, 2, 3, 5, 6, 31, 32, 33] [65, 69, 70] [.slot 6 1] (fun mm st => ∃ i : Nat, mm = a.length - i ∧ i ≤ a.length ∧ st = ⟨[(1, .ptr 65 0 0), (2, .str []), (3, .int .i64 0), (5, .own 69 0), (6, .own 70 0), (31, .sl 4 (actV a)), (32, .int .i64 a.length), (33, .int .i64 i)], [(65, .box 0 (Rul.v ⟨n, p, c, a⟩)), (69, .arr 0 false 1 (strV (c.map condT))), (70, .arr 0 false 1 (strV ((a.take i).map actT)))]⟩) a.length ?_ ?_
      · conv => whnf
        exact ⟨0, rfl, Nat.zero_le _, by rw [← List.length_map (f := Act.c)]; rfl⟩
      · rintro mm st ⟨j, rfl, hj, rfl⟩
        conv => whnf
        refine branch_of (fun g => ?_) (fun g => ?_)
        · have g := of_decide_eq_true g
          have hj' : j < a.length := by omega
          have hm := List.getElem_mem hj'
          conv => whnf
          refine ⟨Act.c a[j], idxM hj' rfl, ?_⟩
          conv => whnf
          refine call0 (actText_good a[j] (hasN c) (by omega) (b5 _ hm) (h10 _ hm)) ?_
          conv => whnf
          refine ⟨⟨⟩, by dsimp only; simp only [List.length_map, List.length_take, List.length_cons, List.length_nil]; omega, ?_⟩
          conv => whnf
          refine ⟨a.length - (j + 1), by omega, j + 1, rfl, by omega, ?_⟩
          rw [wr (by omega) (by omega), map_snoc _ a hj', show strV ((a.take j).map actT ++ [actT a[j]]) = strV ((a.take j).map actT) ++ [[.str (actT a[j])]] from List.map_append]
          rfl
        · have g := of_decide_eq_false g
          rw [List.take_of_length_le (by omega)]
          conv => whnf
          refine ⟨⟨⟩, by show 5 + n.length ≤ 9223372036854775807; omega, ?_⟩
          conv => whnf
          refine ⟨⟨⟩, by show (([114, 117, 108, 101, 32] : Bs) ++ n).length + 1 ≤ 9223372036854775807; simp only [List.length_append, List.length_cons, List.length_nil]; omega, ?_⟩
          conv => whnf
          refine call0 (itoa_good p (by omega) (by omega)) ?_
          conv => whnf
          refine ⟨⟨⟩, by show (([114, 117, 108, 101, 32] : Bs) ++ n ++ [32]).length + (Lib.itoa p).length ≤ 9223372036854775807; simp only [List.length_append, List.length_cons, List.length_nil]; omega, ?_⟩
          conv => whnf
          refine ⟨⟨⟩, by show (([114, 117, 108, 101, 32] : Bs) ++ n ++ [32] ++ Lib.itoa p).length + 2 ≤ 9223372036854775807; simp only [List.length_append, List.length_cons, List.length_nil]; omega, ?_⟩
          conv => whnf
          refine call0 (join_good (c.map condT) [44, 32] (by simp; omega) (by omega)) ?_
          conv => whnf
          refine ⟨⟨⟩, by show (([114, 117, 108, 101, 32] : Bs) ++ n ++ [32] ++ Lib.itoa p ++ [58, 32]).length + (Lib.join (c.map condT) [44, 32]).length ≤ 9223372036854775807; simp only [List.length_append, List.length_cons, List.length_nil]; omega, ?_⟩
          conv => whnf
          refine ⟨⟨⟩, by show (([114, 117, 108, 101, 32] : Bs) ++ n ++ [32] ++ Lib.itoa p ++ [58, 32] ++ Lib.join (c.map condT) [44, 32]).length + 4 ≤ 9223372036854775807; simp only [List.length_append, List.length_cons, List.length_nil]; omega, ?_⟩
          conv => whnf
          refine call0 (join_good (a.map actT) [44, 32] (by simp; omega) (by omega)) ?_
          conv => whnf
          refine ⟨⟨⟩, by show (([114, 117, 108, 101, 32] : Bs) ++ n ++ [32] ++ Lib.itoa p ++ [58, 32] ++ Lib.join (c.map condT) [44, 32] ++ [32, 45, 62, 32]).length + (Lib.join (a.map actT) [44, 32]).length ≤ 9223372036854775807; simp only [List.length_append, List.length_cons, List.length_nil]; omega, ?_⟩
          conv => whnf
          refine ⟨⟨⟩, by show (([114, 117, 108, 101, 32] : Bs) ++ n ++ [32] ++ Lib.itoa p ++ [58, 32] ++ Lib.join (c.map condT) [44, 32] ++ [32, 45, 62, 32] ++ Lib.join (a.map actT) [44, 32]).length + 1 ≤ 9223372036854775807; simp only [List.length_append, List.length_cons, List.length_nil]; omega, ?_⟩
          conv => whnf
          refine ⟨by kernel_rfl, ?_⟩
          conv => whnf
          refine branch_of (fun q => ?_) (fun q => ?_)
          · have q : 20000 < ((ruleT ⟨n, p, c, a⟩).length : Int) := of_decide_eq_true q
            rw [if_pos (show 20000 < (ruleT ⟨n, p, c, a⟩).length by omega), if_neg (by omega)]
            conv => whnf
            exact fin0 rfl trivial
          · have q : ¬ 20000 < ((ruleT ⟨n, p, c, a⟩).length : Int) := of_decide_eq_false q
            rw [if_neg (show ¬ 20000 < (ruleT ⟨n, p, c, a⟩).length by omega), if_pos rfl]
            conv => whnf
            exact fin0 rfl trivial
theorem rword_good (r : Rd) (t : Bs) (hl : r.l.length ≤ 1000000) : Good Tryz.prog 153 [.ptr 0 0 0, .str t] [r.ob] [.bool (r.see 1 t)] [(r.word 1 t).ob] := by
  refine good_of hP Tryz.func153 (by kernel_rfl) (lv := [0, 1, 4, 5, 9]) (js := []) ⟨rfl, rfl, rfl, rfl, rfl, rfl, _, rfl, ?_⟩
  unfold Rd.word
  conv => whnf
  refine callN [(0, 0)] (see_good r 1 t hl) ?_ 
  conv => whnf
  refine ⟨⟨⟩, rfl, ?_⟩
  cases h : r.see 1 t with
  | false =>
    conv => whnf
    refine ⟨[], rfl, ?_⟩
    conv => whnf
    exact ⟨⟨⟩, rfl, trivial⟩
  | true =>
    have := cur_lt' h
    rw [if_pos rfl]
    have hw : IntKind.i64.wrap ((r.i : Int) + 1) = (r.i + 1 : Nat) := by rw [wr (by omega) (by omega)]; rfl
    conv => whnf
    rw [hw]
    refine ⟨[], rfl, ?_⟩
    conv => whnf
    exact ⟨⟨⟩, rfl, trivial⟩
theorem ask_good (r : Rd) (t : Bs) (hl : r.l.length ≤ 1000000) : Good Tryz.prog 92 [.ptr 0 0 0, .str t] [r.ob] [] [(r.want 1 t).ob] := by
  refine good_of hP Tryz.func92 (by kernel_rfl) (lv := [0, 1, 11]) (js := []) ⟨rfl, rfl, rfl, rfl, rfl, rfl, _, rfl, ?_⟩
  unfold Rd.want
  conv => whnf
  refine callN [(0, 0)] (open_good r) ?_ 
  conv => whnf
  refine ⟨⟨⟩, rfl, ?_⟩
  cases ho : r.isOpen with
  | false =>
    have : r.see 1 t = false := by simp [Rd.see, ho]
    rw [this]
    conv => whnf
    refine ⟨[], rfl, ?_⟩
    conv => whnf
    exact ⟨⟨⟩, rfl, trivial⟩
  | true =>
    conv => whnf
    refine callN [(0, 0)] (rword_good r t hl) ?_ 
    conv => whnf
    refine ⟨⟨⟩, rfl, ?_⟩
    unfold Rd.word
    cases hs : r.see 1 t with
    | true =>
      rw [if_pos rfl, if_pos rfl]
      conv => whnf
      refine ⟨[], rfl, ?_⟩
      conv => whnf
      exact ⟨⟨⟩, rfl, trivial⟩
    | false =>
      conv => whnf
      refine ⟨[], rfl, ?_⟩
      conv => whnf
      exact ⟨⟨⟩, rfl, trivial⟩
theorem rnumber_good (r : Rd) (hb : tokB r.l) : Good Tryz.prog 176 [.ptr 0 0 0] [r.ob] [.int .i64 r.num.1] [r.num.2.ob] := by
  obtain ⟨l, i, b, o, w⟩ := r
  obtain ⟨hl, ht⟩ := hb
  dsimp only at hl ht
  refine good_of hP Tryz.func176 (by kernel_rfl) (lv := [0, 2, 3, 4, 7, 31, 47]) (js := []) ⟨rfl, rfl, rfl, rfl, rfl, rfl, _, rfl, ?_⟩
  unfold Rd.num
  conv => whnf
  refine callN [(0, 0)] (open_good ⟨l, i, b, o, w⟩) ?_ 
  conv => whnf
  refine ⟨⟨⟩, rfl, ?_⟩
  cases ho : Rd.isOpen ⟨l, i, b, o, w⟩ with
  | false =>
    rw [if_neg (by simp)]
    conv => whnf
    refine ⟨[], rfl, ?_⟩
    conv => whnf
    exact ⟨⟨⟩, rfl, trivial⟩
  | true =>
  rw [if_pos rfl]
  conv => whnf
  refine branch_of (fun h => ?_) (fun h => ?_)
  · have h := of_decide_eq_true h
    rw [List.length_map] at h
    have hi : i < l.length := by dsimp only at h; omega
    have hc : Rd.cur ⟨l, i, b, o, w⟩ = some (l[i].k, l[i].t) := by simp [Rd.cur, hi]
    have hw : IntKind.i64.wrap ((i : Int) + 1) = (i + 1 : Nat) := by rw [wr (by omega) (by omega)]; rfl
    rw [hc]
    dsimp only
    conv => whnf
    refine ⟨Tok.c l[i], idxM hi rfl, ?_⟩
    conv => whnf
    refine ⟨by kernel_rfl, ?_⟩
    conv => whnf
    refine branch_of (fun h2 => ?_) (fun h2 => ?_)
    · have h2 : l[i].k = 3 := of_decide_eq_true h2
      rw [if_pos h2]
      conv => whnf
      refine ⟨Tok.c l[i], idxM hi rfl, ?_⟩
      conv => whnf
      refine call0 (number_good l[i].t (ht _ (List.getElem_mem hi))) ?_
      cases hn : numberS l[i].t with
      | none =>
        conv => whnf
        refine ⟨by kernel_rfl, ?_⟩
        conv => whnf
        refine ⟨[], rfl, ?_⟩
        conv => whnf
        exact ⟨⟨⟩, rfl, trivial⟩
      | some v =>
        conv => whnf
        refine ⟨by kernel_rfl, ?_⟩
        conv => whnf
        rw [hw]
        refine ⟨[], rfl, ?_⟩
        conv => whnf
        exact ⟨⟨⟩, rfl, trivial⟩
    · have h2 : ¬ l[i].k = 3 := of_decide_eq_false h2
      rw [if_neg h2]
      conv => whnf
      refine ⟨[], rfl, ?_⟩
      conv => whnf
      exact ⟨⟨⟩, rfl, trivial⟩
  · have h := of_decide_eq_false h
    rw [List.length_map] at h
    have hc : Rd.cur ⟨l, i, b, o, w⟩ = none := by
      unfold Rd.cur; rw [List.getElem?_eq_none (by dsimp only at h ⊢; omega)]; rfl
    rw [hc]
    conv => whnf
    refine ⟨by kernel_rfl, ?_⟩
    conv => whnf
    refine ⟨[], rfl, ?_⟩
    conv => whnf
    exact ⟨⟨⟩, rfl, trivial⟩
end Go.PV
namespace Go.PV
open Go Go.Proofs
set_option maxRecDepth 100000
theorem way_good (r : Rd) (hb : tokB r.l) : Good Tryz.prog 224 [.agg [.ptr 0 0 0]] [r.ob] [.int .i64 r.way.1] [r.way.2.ob] := by
  have hl := hb.1
  refine good_of hP Tryz.func224 (by kernel_rfl) (lv := [0, 1, 2, 3, 4, 5, 6, 7, 8, 15, 21]) (js := []) ⟨rfl, rfl, rfl, rfl, rfl, rfl, _, rfl, ?_⟩
  conv => whnf
  refine call0 (ways_good) ?_
  conv => whnf
  refine loop_of hP [0, 1, 2, 3, 4, 5, 6, 7, 8, 15, 21] [] [1, 2, 5, 6, 7] [0, 65] [] (fun m st => ∃ k : Nat, m = 4 - k ∧ k ≤ 4 ∧ (∀ j (h : j < wayL.length), j < k → r.see 5 wayL[j] = false) ∧ st = ⟨[(1, .ptr 65 0 0), (2, .int .i64 0), (5, .sl 1 (strV wayL)), (6, .int .i64 4), (7, .int .i64 k)], [(0, r.ob), (65, .box 0 [.ptr 0 0 0])]⟩) 4 ?_ ?_
  · conv => whnf
    exact ⟨0, rfl, by omega, fun j _ h => by omega, rfl⟩
  · rintro m st ⟨k, rfl, hk, hn, rfl⟩
    conv => whnf
    refine branch_of (fun h => ?_) (fun h => ?_)
    · have h := of_decide_eq_true h
      have hk4 : k < 4 := by omega
      have hk' : k < wayL.length := hk4
      conv => whnf
      refine ⟨[.str wayL[k]], idxM (f := fun x : Bs => [V.str x]) hk' rfl, ?_⟩
      conv => whnf
      refine callN [(0, 0)] (rsign_good' r wayL[k] hl) ?_ 
      conv => whnf
      refine ⟨⟨⟩, rfl, ?_⟩
      cases hs : r.see 5 wayL[k] with
      | true =>
        have hw : r.way = ((k : Int) + 1, r.step) := by
          unfold Rd.way
          have h4 : k = 0 ∨ k = 1 ∨ k = 2 ∨ k = 3 := by omega
          rcases h4 with rfl | rfl | rfl | rfl
          · rw [if_pos (show r.see 5 [61] = true from hs)]; rfl
          · rw [if_neg (by rw [show r.see 5 [61] = false from hn 0 (by decide) (by omega)]; simp), if_pos (show r.see 5 [33, 61] = true from hs)]; rfl
          · rw [if_neg (by rw [show r.see 5 [61] = false from hn 0 (by decide) (by omega)]; simp), if_neg (by rw [show r.see 5 [33, 61] = false from hn 1 (by decide) (by omega)]; simp), if_pos (show r.see 5 [60] = true from hs)]; rfl
          · rw [if_neg (by rw [show r.see 5 [61] = false from hn 0 (by decide) (by omega)]; simp), if_neg (by rw [show r.see 5 [33, 61] = false from hn 1 (by decide) (by omega)]; simp), if_neg (by rw [show r.see 5 [60] = false from hn 2 (by decide) (by omega)]; simp), if_pos (show r.see 5 [60, 61] = true from hs)]; rfl
        have hd : r.word 5 wayL[k] = r.step := by unfold Rd.word; rw [if_pos hs]
        rw [hw, hd]
        conv => whnf
        have he : IntKind.i64.wrap (1 + (k : Int)) = (k : Int) + 1 := by rw [wr (by omega) (by omega)]; omega
        rw [he]
        refine ⟨[], rfl, ?_⟩
        conv => whnf
        exact ⟨⟨⟩, rfl, trivial⟩
      | false =>
        have hd : r.word 5 wayL[k] = r := by unfold Rd.word; rw [if_neg (by rw [hs]; simp)]
        rw [hd]
        conv => whnf
        refine ⟨4 - (k + 1), by omega, k + 1, rfl, by omega, fun j hj hjk => ?_, ?_⟩
        · by_cases e : j = k
          · subst e; exact hs
          · exact hn j hj (by omega)
        · rw [wr (by omega) (by omega)]; rfl
    · have h := of_decide_eq_false h
      have hw : r.way = (0, if r.isOpen then r.fail else r) := by
        unfold Rd.way
        rw [if_neg (by rw [show r.see 5 [61] = false from hn 0 (by decide) (by omega)]; simp), if_neg (by rw [show r.see 5 [33, 61] = false from hn 1 (by decide) (by omega)]; simp), if_neg (by rw [show r.see 5 [60] = false from hn 2 (by decide) (by omega)]; simp), if_neg (by rw [show r.see 5 [60, 61] = false from hn 3 (by decide) (by omega)]; simp)]
      rw [hw]
      conv => whnf
      refine callN [(0, 0)] (open_good r) ?_ 
      conv => whnf
      refine ⟨⟨⟩, rfl, ?_⟩
      cases ho : r.isOpen with
      | true =>
        conv => whnf
        refine ⟨[], rfl, ?_⟩
        conv => whnf
        exact ⟨⟨⟩, rfl, trivial⟩
      | false =>
        conv => whnf
        refine ⟨[], rfl, ?_⟩
        conv => whnf
        exact ⟨⟨⟩, rfl, trivial⟩
theorem condR_good (r : Rd) (hb : tokB r.l) : Good Tryz.prog 177 [.agg [.ptr 0 0 0]] [r.ob] [.agg r.condR.1.c] [r.condR.2.ob] := by
  have hl := hb.1
  refine good_of hP Tryz.func177 (by kernel_rfl) (lv := [0, 1, 2, 3, 6, 24]) (js := []) ⟨rfl, rfl, rfl, rfl, rfl, rfl, _, rfl, ?_⟩
  unfold Rd.condR
  conv => whnf
  refine callN [(0, 0)] (rsign_good' r [91] hl) ?_ 
  conv => whnf
  refine ⟨⟨⟩, rfl, ?_⟩
  unfold Rd.word
  cases hs : r.see 5 [91] with
  | true =>
    rw [if_pos rfl, if_pos rfl]
    have b0 : tokB r.step.l := hb
    have e1 := Rd.expr_l r.step
    have b1 : tokB r.step.expr.2.l := by rw [e1.1]; exact b0
    have e2 := Rd.way_l r.step.expr.2
    have b2 : tokB r.step.expr.2.way.2.l := by rw [e2.1]; exact b1
    have e3 := Rd.expr_l r.step.expr.2.way.2
    have b3 : tokB r.step.expr.2.way.2.expr.2.l := by rw [e3.1]; exact b2
    conv => whnf
    refine callN [(0, 0)] (rexpr_good r.step b0) ?_ 
    conv => whnf
    refine ⟨⟨⟩, rfl, ?_⟩
    conv => whnf
    refine callN [(0, 0)] (way_good r.step.expr.2 b1) ?_ 
    conv => whnf
    refine ⟨⟨⟩, rfl, ?_⟩
    conv => whnf
    refine callN [(0, 0)] (rexpr_good r.step.expr.2.way.2 b2) ?_ 
    conv => whnf
    refine ⟨⟨⟩, rfl, ?_⟩
    conv => whnf
    refine callN [(0, 0)] (want_good r.step.expr.2.way.2.expr.2 [93] b3.1) ?_ 
    conv => whnf
    refine ⟨⟨⟩, rfl, ?_⟩
    conv => whnf
    refine ⟨[], rfl, ?_⟩
    conv => whnf
    exact ⟨⟨⟩, rfl, trivial⟩
  | false =>
    rw [if_neg (by simp), if_neg (by simp)]
    conv => whnf
    refine callN [(0, 0)] (rword_good r [110, 111, 116] hl) ?_ 
    conv => whnf
    refine ⟨⟨⟩, rfl, ?_⟩
    unfold Rd.word
    cases hs2 : r.see 1 [110, 111, 116] with
    | true =>
      rw [if_pos rfl, if_pos rfl]
      conv => whnf
      refine callN [(0, 0)] (ratom_good r.step hb) ?_ 
      conv => whnf
      refine ⟨⟨⟩, rfl, ?_⟩
      conv => whnf
      refine ⟨[], rfl, ?_⟩
      conv => whnf
      exact ⟨⟨⟩, rfl, trivial⟩
    | false =>
      rw [if_neg (by simp), if_neg (by simp)]
      conv => whnf
      refine callN [(0, 0)] (ratom_good r hb) ?_ 
      conv => whnf
      refine ⟨⟨⟩, rfl, ?_⟩
      conv => whnf
      refine ⟨[], rfl, ?_⟩
      conv => whnf
      exact ⟨⟨⟩, rfl, trivial⟩
end Go.PV
namespace Go.PV
open Go Go.Proofs
set_option maxRecDepth 100000
theorem takeN {α : Type} (n : Nat) (t : α) (ts : List α) (u : α) : (t :: (ts ++ [u])).take n = if ts.length + 2 ≤ n then (t :: ts).take n ++ [u] else (t :: ts).take n := by
  rw [← List.cons_append]
  split
  · rw [List.take_of_length_le (by simp; omega), List.take_of_length_le (by simp; omega)]
  · rw [List.take_append_of_le_length (by simp; omega)]
theorem many_no {α : Type} {g : Rd → α × Rd} {r : Rd} (h : r.see 5 [44] = false) (f : Nat) : Rd.many g f r = ([], r) := by cases f <;> simp [Rd.many, h]
theorem actR_good (r : Rd) (hb : tokB r.l) : Good Tryz.prog 178 [.agg [.ptr 0 0 0]] [r.ob] [.agg r.actR.1.c] [r.actR.2.ob] := by
  have hl := hb.1
  refine good_of hP Tryz.func178 (by kernel_rfl) (lv := [0, 1, 2, 3, 4, 5, 8, 18, 43, 55, 62]) (js := []) ⟨rfl, rfl, rfl, rfl, rfl, rfl, _, rfl, ?_⟩
  conv => whnf
  refine callN [(0, 0)] (rword_good r [100, 114, 111, 112] hl) ?_ 
  conv => whnf
  refine ⟨⟨⟩, rfl, ?_⟩
  unfold Rd.word
  cases hs : r.see 1 [100, 114, 111, 112] with
  | true =>
    have hA : r.actR = (⟨2, [], [], r.step.num.1⟩, if r.step.num.2.isOpen && decide (r.step.num.1 < 0) then r.step.num.2.back else r.step.num.2) := by unfold Rd.actR; rw [if_pos hs]
    rw [if_pos rfl, hA]
    have hlt := cur_lt' hs
    have hup := @Rd.num_up r.step
    have h1 := Rd.num_l r.step
    conv => whnf
    refine callN [(0, 0)] (rnumber_good r.step hb) ?_ 
    conv => whnf
    refine ⟨⟨⟩, rfl, ?_⟩
    generalize r.step.num = x at *
    conv => whnf
    refine callN [(0, 0)] (open_good x.2) ?_ 
    conv => whnf
    refine ⟨⟨⟩, rfl, ?_⟩
    cases ho : x.2.isOpen with
    | false =>
      rw [Bool.false_and, if_neg (by simp)]
      conv => whnf
      refine ⟨[], rfl, ?_⟩
      conv => whnf
      exact ⟨⟨⟩, rfl, trivial⟩
    | true =>
      rw [Bool.true_and]
      have hi : x.2.i = r.i + 2 := hup ho
      conv => whnf
      refine branch_of (fun h => ?_) (fun h => ?_)
      · rw [h, if_pos rfl]
        have hw : IntKind.i64.wrap ((x.2.i : Int) - 1) = ((x.2.i - 1 : Nat) : Int) := by rw [wr (by omega) (by omega)]; omega
        conv => whnf
        rw [hw]
        refine ⟨[], rfl, ?_⟩
        conv => whnf
        exact ⟨⟨⟩, rfl, trivial⟩
      · rw [h, if_neg (by simp)]
        conv => whnf
        refine ⟨[], rfl, ?_⟩
        conv => whnf
        exact ⟨⟨⟩, rfl, trivial⟩
  | false =>
  have hA : r.actR = if (r.want 5 [43]).name.2.see 5 [40] then (⟨1, (r.want 5 [43]).name.1, ((r.want 5 [43]).name.2.step.expr.1 :: (Rd.many Rd.expr r.l.length (r.want 5 [43]).name.2.step.expr.2).1).take 6, 0⟩, (Rd.many Rd.expr r.l.length (r.want 5 [43]).name.2.step.expr.2).2.want 5 [41]) else (⟨1, (r.want 5 [43]).name.1, [], 0⟩, (r.want 5 [43]).name.2) := by
    unfold Rd.actR; rw [if_neg (by rw [hs]; simp)]
  rw [if_neg (by simp), hA]
  have e0 := Rd.want_l r 5 [43]
  have b0 : tokB (r.want 5 [43]).l := by rw [e0.1]; exact hb
  have e1 := Rd.name_l (r.want 5 [43])
  have b1 : tokB (r.want 5 [43]).name.2.l := by rw [e1.1]; exact b0
  have hle : (r.want 5 [43]).name.2.l = r.l := e1.1.trans e0.1
  conv => whnf
  refine callN [(0, 0)] (want_good r [43] hl) ?_ 
  conv => whnf
  refine ⟨⟨⟩, rfl, ?_⟩
  conv => whnf
  refine callN [(0, 0)] (rname_good (r.want 5 [43]) b0.1 (fun t h => Nat.le_trans (b0.2 t h) (by omega))) ?_ 
  conv => whnf
  refine ⟨⟨⟩, rfl, ?_⟩
  generalize (r.want 5 [43]).name = x at *
  conv => whnf
  refine callN [(0, 0)] (rsign_good' x.2 [40] b1.1) ?_ 
  conv => whnf
  refine ⟨⟨⟩, rfl, ?_⟩
  unfold Rd.word
  cases hs2 : x.2.see 5 [40] with
  | false =>
    rw [if_neg (by simp), if_neg (by simp)]
    conv => whnf
    refine ⟨[], rfl, ?_⟩
    conv => whnf
    exact ⟨⟨⟩, rfl, trivial⟩
  | true =>
  rw [if_pos rfl, if_pos rfl]
  have b2 : tokB x.2.step.l := b1
  have e2 := Rd.expr_l x.2.step
  conv => whnf
  refine callN [(0, 0)] (rexpr_good x.2.step b2) ?_ 
  conv => whnf
  refine ⟨⟨⟩, rfl, ?_⟩
  generalize x.2.step.expr = y at *
  have hyl : y.2.l = r.l := e2.1.trans hle
  generalize hU : Rd.many Rd.expr r.l.length y.2 = U
  conv => whnf
  refine ⟨⟨⟩, by dsimp only; simp only [List.length_cons, List.length_nil]; omega, ?_⟩
  conv => whnf
  refine ⟨by kernel_rfl, ?_⟩
  conv => whnf
  refine loop_of hP [0, 1, 2, 3, 4, 5, 8, 18, 43, 55, 62] [] [1, 2, 4] [0, 65, 66, 68, 115] [] (fun m st => ∃ (f : Nat) (ts : List (List Stp)) (q : Rd), m = q.l.length - q.i ∧ q.l = r.l ∧ q.l.length ≤ f + q.i ∧ f + ts.length = r.l.length ∧ U = (ts ++ (Rd.many Rd.expr f q).1, (Rd.many Rd.expr f q).2) ∧
    st = ⟨[(1, .ptr 65 0 0), (2, .ptr 66 0 0), (4, .ptr 68 0 0)], [(0, q.ob), (65, .box 0 [.ptr 0 0 0]), (66, .box 0 [.int .i64 0, .str [], .nil, .int .i64 0]), (68, .box 0 [.int .i64 1, .str x.1, .own 115 0, .int .i64 0]), (115, .arr 0 false 1 (opsV ((y.1 :: ts).take 6)))]⟩) (y.2.l.length - y.2.i) ?_ ?_
  · conv => whnf
    exact ⟨r.l.length, [], y.2, rfl, hyl, by rw [hyl]; omega, rfl, hU.symm, rfl⟩
  · rintro m st ⟨f, ts, q, rfl, hq, hf, hts, he, rfl⟩
    have bq : tokB q.l := by rw [hq]; exact hb
    conv => whnf
    refine callN [(0, 0)] (rsign_good' q [44] bq.1) ?_ 
    conv => whnf
    refine ⟨⟨⟩, rfl, ?_⟩
    unfold Rd.word
    cases hs3 : q.see 5 [44] with
    | true =>
      have hlt := cur_lt' hs3
      obtain ⟨f, rfl⟩ : ∃ f', f = f' + 1 := ⟨f - 1, by omega⟩
      rw [Rd.many, if_pos hs3] at he
      rw [if_pos rfl]
      have h2 := Rd.expr_l q.step
      conv => whnf
      refine callN [(0, 0)] (rexpr_good q.step bq) ?_ 
      conv => whnf
      refine ⟨⟨⟩, rfl, ?_⟩
      generalize q.step.expr = z at *
      have h3 : q.i + 1 ≤ z.2.i := h2.2
      have h4 : z.2.l = q.l := h2.1
      have hU2 : U = ((ts ++ [z.1]) ++ (Rd.many Rd.expr f z.2).1, (Rd.many Rd.expr f z.2).2) := by rw [he]; simp
      conv => whnf
      refine branch_of (fun h5 => ?_) (fun h5 => ?_)
      · have h5 := of_decide_eq_true h5
        rw [List.length_map, List.length_take, List.length_cons] at h5
        conv => whnf
        refine ⟨⟨⟩, by dsimp only; simp only [List.length_map, List.length_take, List.length_cons, List.length_nil]; omega, ?_⟩
        conv => whnf
        refine ⟨z.2.l.length - z.2.i, by rw [h4]; omega, f, ts ++ [z.1], z.2, rfl, h4.trans hq, by rw [h4]; omega, by simp; omega, hU2, ?_⟩
        rw [takeN, if_pos (by omega), show opsV ((y.1 :: ts).take 6 ++ [z.1]) = opsV ((y.1 :: ts).take 6) ++ [[.sl 5 (stpV z.1)]] from List.map_append]
      · have h5 := of_decide_eq_false h5
        rw [List.length_map, List.length_take, List.length_cons] at h5
        conv => whnf
        refine ⟨z.2.l.length - z.2.i, by rw [h4]; omega, f, ts ++ [z.1], z.2, rfl, h4.trans hq, by rw [h4]; omega, by simp; omega, hU2, ?_⟩
        rw [takeN, if_neg (by omega)]
    | false =>
      rw [many_no hs3, List.append_nil] at he
      subst he
      conv => whnf
      refine callN [(0, 0)] (want_good q [41] bq.1) ?_ 
      conv => whnf
      refine ⟨⟨⟩, rfl, ?_⟩
      conv => whnf
      refine ⟨[], rfl, ?_⟩
      conv => whnf
      exact ⟨⟨⟩, rfl, trivial⟩
end Go.PV
namespace Go.PV
open Go Go.Proofs
set_option maxRecDepth 100000
theorem rule_good (r : Rd) (hb : tokB r.l) : Good Tryz.prog 113 [.agg [.ptr 0 0 0]] [r.ob] [.agg r.rule.1.v] [r.rule.2.ob] := by
  have hl := hb.1
  refine good_of hP Tryz.func113 (by kernel_rfl) (lv := [0, 1, 2, 3, 4, 5, 29, 35, 54, 60]) (js := []) ⟨rfl, rfl, rfl, rfl, rfl, rfl, _, rfl, ?_⟩
  have e0 := Rd.want_l r 1 [114, 117, 108, 101]
  generalize hv0 : r.want 1 [114, 117, 108, 101] = v0 at *
  have b0 : tokB v0.l := by rw [e0.1]; exact hb
  have e1 := Rd.name_l v0
  generalize hv1 : v0.name = v1 at *
  have b1 : tokB v1.2.l := by rw [e1.1]; exact b0
  have e2 := Rd.num_l v1.2
  generalize hv2 : v1.2.num = v2 at *
  have b2 : tokB v2.2.l := by rw [e2.1]; exact b1
  have e3 := Rd.want_l v2.2 5 [58]
  generalize hv3 : v2.2.want 5 [58] = v3 at *
  have b3 : tokB v3.l := by rw [e3.1]; exact b2
  have e4 := Rd.condR_l v3
  generalize hv4 : v3.condR = v4 at *
  have b4 : tokB v4.2.l := by rw [e4.1]; exact b3
  have hl4 : v4.2.l = r.l := by rw [e4.1, e3.1, e2.1, e1.1, e0.1]
  have e5 := Rd.many_l Rd.condR_l r.l.length v4.2
  generalize hv5 : Rd.many Rd.condR r.l.length v4.2 = v5 at *
  have b5 : tokB v5.2.l := by rw [e5.1]; exact b4
  have e6 := Rd.want_l v5.2 5 [45, 62]
  generalize hv6 : v5.2.want 5 [45, 62] = v6 at *
  have b6 : tokB v6.l := by rw [e6.1]; exact b5
  have e7 := Rd.actR_l v6
  generalize hv7 : v6.actR = v7 at *
  have b7 : tokB v7.2.l := by rw [e7.1]; exact b6
  have hl7 : v7.2.l = r.l := by rw [e7.1, e6.1, e5.1, hl4]
  generalize hv8 : Rd.many Rd.actR r.l.length v7.2 = v8
  have hR : r.rule = (⟨v1.1, v2.1, (v4.1 :: v5.1).take 7, (v7.1 :: v8.1).take 7⟩, v8.2.want 5 [46]) := by
    unfold Rd.rule
    dsimp only
    rw [hv0, hv1, hv2, hv3, hv4, hv5, hv6, hv7, hv8]
  rw [hR]
  conv => whnf
  refine callN [(0, 0)] (ask_good r [114, 117, 108, 101] hl) ?_ 
  conv => whnf
  refine ⟨⟨⟩, rfl, ?_⟩
  rw [hv0]
  conv => whnf
  refine callN [(0, 0)] (rname_good v0 b0.1 (fun t h => Nat.le_trans (b0.2 t h) (by omega))) ?_ 
  conv => whnf
  refine ⟨⟨⟩, rfl, ?_⟩
  rw [hv1]
  conv => whnf
  refine callN [(0, 0)] (rnumber_good v1.2 b1) ?_ 
  conv => whnf
  refine ⟨⟨⟩, rfl, ?_⟩
  rw [hv2]
  conv => whnf
  refine callN [(0, 0)] (want_good v2.2 [58] b2.1) ?_ 
  conv => whnf
  refine ⟨⟨⟩, rfl, ?_⟩
  rw [hv3]
  conv => whnf
  refine callN [(0, 0)] (condR_good v3 b3) ?_ 
  conv => whnf
  refine ⟨⟨⟩, rfl, ?_⟩
  rw [hv4]
  conv => whnf
  refine ⟨⟨⟩, by dsimp only; simp only [List.length_cons, List.length_nil]; omega, ?_⟩
  conv => whnf
  refine ⟨by kernel_rfl, ?_⟩
  conv => whnf
  refine loop_of hP [0, 1, 2, 3, 4, 5, 29, 35, 54, 60] [] [1, 2, 3] [0, 65, 66, 67, 89] [] (fun m st => ∃ (f : Nat) (ts : List Cnd) (q : Rd), m = q.l.length - q.i ∧ q.l = r.l ∧ q.l.length ≤ f + q.i ∧ f + ts.length = r.l.length ∧ v5 = (ts ++ (Rd.many Rd.condR f q).1, (Rd.many Rd.condR f q).2) ∧
    st = ⟨[(1, .ptr 65 0 0), (2, .ptr 66 0 0), (3, .ptr 67 0 0)], [(0, q.ob), (65, .box 0 [.ptr 0 0 0]), (66, .box 0 [.str [], .int .i64 0, .nil, .nil]), (67, .box 0 [.str v1.1, .int .i64 v2.1, .own 89 0, .nil]), (89, .arr 0 false 6 (cndV ((v4.1 :: ts).take 7)))]⟩) (v4.2.l.length - v4.2.i) ?_ ?_
  · conv => whnf
    exact ⟨r.l.length, [], v4.2, rfl, hl4, by rw [hl4]; omega, rfl, hv5.symm, rfl⟩
  · rintro m st ⟨f, ts, q, rfl, hq, hf, hts, he, rfl⟩
    have bq : tokB q.l := by rw [hq]; exact hb
    conv => whnf
    refine callN [(0, 0)] (rsign_good' q [44] bq.1) ?_ 
    conv => whnf
    refine ⟨⟨⟩, rfl, ?_⟩
    unfold Rd.word
    cases hs3 : q.see 5 [44] with
    | true =>
      have hlt := cur_lt' hs3
      obtain ⟨f, rfl⟩ : ∃ f', f = f' + 1 := ⟨f - 1, by omega⟩
      rw [Rd.many, if_pos hs3] at he
      rw [if_pos rfl]
      have h2 := Rd.condR_l q.step
      conv => whnf
      refine callN [(0, 0)] (condR_good q.step bq) ?_ 
      conv => whnf
      refine ⟨⟨⟩, rfl, ?_⟩
      generalize q.step.condR = z at *
      have h3 : q.i + 1 ≤ z.2.i := h2.2
      have h4 : z.2.l = q.l := h2.1
      have hU2 : v5 = ((ts ++ [z.1]) ++ (Rd.many Rd.condR f z.2).1, (Rd.many Rd.condR f z.2).2) := by rw [he]; simp
      conv => whnf
      refine branch_of (fun h5 => ?_) (fun h5 => ?_)
      · have h5 := of_decide_eq_true h5
        rw [List.length_map, List.length_take, List.length_cons] at h5
        conv => whnf
        refine ⟨⟨⟩, by dsimp only; simp only [List.length_map, List.length_take, List.length_cons, List.length_nil]; omega, ?_⟩
        conv => whnf
        refine ⟨z.2.l.length - z.2.i, by rw [h4]; omega, f, ts ++ [z.1], z.2, rfl, h4.trans hq, by rw [h4]; omega, by simp; omega, hU2, ?_⟩
        rw [takeN, if_pos (by omega), show cndV ((v4.1 :: ts).take 7 ++ [z.1]) = cndV ((v4.1 :: ts).take 7) ++ [z.1.c] from List.map_append]
      · have h5 := of_decide_eq_false h5
        rw [List.length_map, List.length_take, List.length_cons] at h5
        conv => whnf
        refine ⟨z.2.l.length - z.2.i, by rw [h4]; omega, f, ts ++ [z.1], z.2, rfl, h4.trans hq, by rw [h4]; omega, by simp; omega, hU2, ?_⟩
        rw [takeN, if_neg (by omega)]
    | false =>
      rw [many_no hs3, List.append_nil] at he
      have hq5 : q = v5.2 := by rw [he]
      have ht5 : ts = v5.1 := by rw [he]
      subst hq5 ht5
      conv => whnf
      refine callN [(0, 0)] (want_good v5.2 [45, 62] b5.1) ?_ 
      conv => whnf
      refine ⟨⟨⟩, rfl, ?_⟩
      rw [hv6]
      conv => whnf
      refine callN [(0, 0)] (actR_good v6 b6) ?_ 
      conv => whnf
      refine ⟨⟨⟩, rfl, ?_⟩
      rw [hv7]
      conv => whnf
      refine ⟨⟨⟩, by dsimp only; simp only [List.length_cons, List.length_nil]; omega, ?_⟩
      conv => whnf
      refine ⟨by kernel_rfl, ?_⟩
      conv => whnf
      refine loop_of hP [0, 1, 2, 3, 4, 5, 29, 35, 54, 60] [] [1, 2, 3] [0, 65, 66, 67, 89, 114] [] (fun m st => ∃ (f : Nat) (ts : List Act) (q : Rd), m = q.l.length - q.i ∧ q.l = r.l ∧ q.l.length ≤ f + q.i ∧ f + ts.length = r.l.length ∧ v8 = (ts ++ (Rd.many Rd.actR f q).1, (Rd.many Rd.actR f q).2) ∧
        st = ⟨[(1, .ptr 65 0 0), (2, .ptr 66 0 0), (3, .ptr 67 0 0)], [(0, q.ob), (65, .box 0 [.ptr 0 0 0]), (66, .box 0 [.str [], .int .i64 0, .nil, .nil]), (67, .box 0 [.str v1.1, .int .i64 v2.1, .own 89 0, .own 114 0]), (89, .arr 0 false 6 (cndV ((v4.1 :: v5.1).take 7))), (114, .arr 0 false 4 (actV ((v7.1 :: ts).take 7)))]⟩) (v7.2.l.length - v7.2.i) ?_ ?_
      · conv => whnf
        exact ⟨r.l.length, [], v7.2, rfl, hl7, by rw [hl7]; omega, rfl, hv8.symm, rfl⟩
      · rintro m st ⟨f, ts, q, rfl, hq, hf, hts, he, rfl⟩
        have bq : tokB q.l := by rw [hq]; exact hb
        conv => whnf
        refine callN [(0, 0)] (rsign_good' q [44] bq.1) ?_ 
        conv => whnf
        refine ⟨⟨⟩, rfl, ?_⟩
        unfold Rd.word
        cases hs3 : q.see 5 [44] with
        | true =>
          have hlt := cur_lt' hs3
          obtain ⟨f, rfl⟩ : ∃ f', f = f' + 1 := ⟨f - 1, by omega⟩
          rw [Rd.many, if_pos hs3] at he
          rw [if_pos rfl]
          have h2 := Rd.actR_l q.step
          conv => whnf
          refine callN [(0, 0)] (actR_good q.step bq) ?_ 
          conv => whnf
          refine ⟨⟨⟩, rfl, ?_⟩
          generalize q.step.actR = z at *
          have h3 : q.i + 1 ≤ z.2.i := h2.2
          have h4 : z.2.l = q.l := h2.1
          have hU2 : v8 = ((ts ++ [z.1]) ++ (Rd.many Rd.actR f z.2).1, (Rd.many Rd.actR f z.2).2) := by rw [he]; simp
          conv => whnf
          refine branch_of (fun h5 => ?_) (fun h5 => ?_)
          · have h5 := of_decide_eq_true h5
            rw [List.length_map, List.length_take, List.length_cons] at h5
            conv => whnf
            refine ⟨⟨⟩, by dsimp only; simp only [List.length_map, List.length_take, List.length_cons, List.length_nil]; omega, ?_⟩
            conv => whnf
            refine ⟨z.2.l.length - z.2.i, by rw [h4]; omega, f, ts ++ [z.1], z.2, rfl, h4.trans hq, by rw [h4]; omega, by simp; omega, hU2, ?_⟩
            rw [takeN, if_pos (by omega), show actV ((v7.1 :: ts).take 7 ++ [z.1]) = actV ((v7.1 :: ts).take 7) ++ [z.1.c] from List.map_append]
          · have h5 := of_decide_eq_false h5
            rw [List.length_map, List.length_take, List.length_cons] at h5
            conv => whnf
            refine ⟨z.2.l.length - z.2.i, by rw [h4]; omega, f, ts ++ [z.1], z.2, rfl, h4.trans hq, by rw [h4]; omega, by simp; omega, hU2, ?_⟩
            rw [takeN, if_neg (by omega)]
        | false =>
          rw [many_no hs3, List.append_nil] at he
          have hq8 : q = v8.2 := by rw [he]
          have ht8 : ts = v8.1 := by rw [he]
          subst hq8 ht8
          conv => whnf
          refine callN [(0, 0)] (want_good v8.2 [46] bq.1) ?_ 
          conv => whnf
          refine ⟨⟨⟩, rfl, ?_⟩
          conv => whnf
          refine ⟨[], rfl, ?_⟩
          conv => whnf
          exact ⟨⟨⟩, rfl, trivial⟩
end Go.PV
namespace Go.PV
open Go
/-! what is read of rules is short -/
def trmS (t : Trm) : Prop := t.v.length ≤ 1000000 ∧ t.x.s.length ≤ 1000000
def stpS (o : Stp) : Prop := o.v.length ≤ 1000000 ∧ o.x.s.length ≤ 1000000
namespace Rd
theorem term_s (r : Rd) : trmS r.term.1 := by
  unfold term
  split
  · split
    · rename_i t ht
      obtain ⟨x, _, hx⟩ := Option.bind_eq_some_iff.1 ht
      have := termOk_len (value_ok hx)
      exact ⟨by show t.v.length ≤ _; omega, by show t.x.s.length ≤ _; omega⟩
    · exact ⟨Nat.zero_le _, Nat.zero_le _⟩
  · exact ⟨Nat.zero_le _, Nat.zero_le _⟩
theorem name_s (r : Rd) : r.name.1.length ≤ 1000000 := by
  unfold name
  split
  · split
    · split
      · rename_i h; have := name_len h.2; dsimp only; omega
      · exact Nat.zero_le _
    · exact Nat.zero_le _
  · exact Nat.zero_le _
theorem args_s : ∀ (f : Nat) (r : Rd), ∀ t ∈ (args f r).1, trmS t
  | 0, r => fun t ht => by cases ht
  | f + 1, r => by
    rw [args]
    split
    · intro t ht
      rcases List.mem_cons.1 ht with rfl | ht
      · exact term_s _
      · exact args_s f _ t ht
    · intro t ht; cases ht
theorem atom_s (r : Rd) : r.atom.1.n.length ≤ 1000000 ∧ r.atom.1.a.length ≤ 1000000 ∧ ∀ t ∈ r.atom.1.a, t.v.length ≤ 1000000 ∧ t.x.s.length ≤ 1000000 := by
  unfold atom
  dsimp only
  split
  · unfold brack
    dsimp only
    refine ⟨name_s r, by rw [List.length_take]; omega, fun t ht => ?_⟩
    rcases List.mem_cons.1 (List.mem_of_mem_take ht) with rfl | ht
    · exact term_s _
    · exact args_s _ _ t ht
  · exact ⟨name_s r, Nat.zero_le _, fun t ht => by cases ht⟩
theorem part_s : ∀ (n : Nat) (r : Rd), ∀ o ∈ (part n r).1, stpS o
  | 0, r => by
    unfold part
    split
    · intro o ho; cases ho
    · intro o ho
      rw [List.mem_singleton] at ho
      subst ho
      exact term_s r
  | n + 1, r => by
    rw [part]
    split
    · dsimp only
      split
      · intro o ho
        rw [List.mem_append, List.mem_append, List.mem_singleton] at ho
        rcases ho with (ho | ho) | rfl
        · exact part_s n _ o ho
        · exact part_s n _ o ho
        · exact ⟨Nat.zero_le _, Nat.zero_le _⟩
      · intro o ho; cases ho
    · intro o ho
      rw [List.mem_singleton] at ho
      subst ho
      exact term_s r
theorem expr_s (r : Rd) : r.expr.1.length ≤ 1000000 ∧ ∀ o ∈ r.expr.1, o.v.length ≤ 1000000 ∧ o.x.s.length ≤ 1000000 := by
  unfold expr
  split
  · have := part_len 15 r
    exact ⟨by dsimp only; omega, part_s 15 r⟩
  · exact ⟨Nat.zero_le _, fun o ho => by cases ho⟩
theorem cnd_s (k : Int) {a : Atm} (h : a.n.length ≤ 1000000 ∧ a.a.length ≤ 1000000 ∧ ∀ t ∈ a.a, t.v.length ≤ 1000000 ∧ t.x.s.length ≤ 1000000) : cndB ⟨k, a, 0, [], []⟩ :=
  have z : ∀ o ∈ ([] : List Stp), o.v.length ≤ 1000000 ∧ o.x.s.length ≤ 1000000 := fun o ho => absurd ho List.not_mem_nil
  ⟨h.1, h.2.1, h.2.2, Nat.zero_le _, z, Nat.zero_le _, z⟩
theorem condR_s (r : Rd) : cndB r.condR.1 := by
  unfold condR
  split
  · have h1 := expr_s r.step
    have h2 := expr_s r.step.expr.2.way.2
    exact ⟨Nat.zero_le _, Nat.zero_le _, fun t ht => absurd ht List.not_mem_nil, h1.1, h1.2, h2.1, h2.2⟩
  · split
    · exact cnd_s 2 (atom_s r.step)
    · exact cnd_s 1 (atom_s r)
theorem many_s {α : Type} {g : Rd → α × Rd} {p : α → Prop} (hg : ∀ r, p (g r).1) : ∀ (f : Nat) (r : Rd), ∀ x ∈ (many g f r).1, p x
  | 0, r => fun x hx => by cases hx
  | f + 1, r => by
    rw [many]
    split
    · intro x hx
      rcases List.mem_cons.1 hx with rfl | hx
      · exact hg _
      · exact many_s hg f _ x hx
    · intro x hx; cases hx
theorem actR_s (r : Rd) : actB r.actR.1 := by
  unfold actR
  split
  · exact ⟨Nat.zero_le _, Nat.zero_le _, fun l hl => absurd hl List.not_mem_nil⟩
  · dsimp only
    split
    · refine ⟨name_s _, by dsimp only; rw [List.length_take]; omega, fun l hl => ?_⟩
      rcases List.mem_cons.1 (List.mem_of_mem_take hl) with rfl | hl
      · exact expr_s _
      · exact many_s (p := fun l => l.length ≤ 1000000 ∧ ∀ o ∈ l, o.v.length ≤ 1000000 ∧ o.x.s.length ≤ 1000000) expr_s _ _ l hl
    · exact ⟨name_s _, Nat.zero_le _, fun l hl => absurd hl List.not_mem_nil⟩
theorem rule_s (r : Rd) : rulB r.rule.1 := by
  unfold rule
  dsimp only
  refine ⟨name_s _, by dsimp only; rw [List.length_take]; omega, fun c hc => ?_, by dsimp only; rw [List.length_take]; omega, fun c hc => ?_⟩
  · rcases List.mem_cons.1 (List.mem_of_mem_take hc) with rfl | hc
    · exact condR_s _
    · exact many_s condR_s _ _ c hc
  · rcases List.mem_cons.1 (List.mem_of_mem_take hc) with rfl | hc
    · exact actR_s _
    · exact many_s actR_s _ _ c hc
end Rd
end Go.PV
namespace Go.PV
open Go Go.Proofs
set_option maxRecDepth 100000
theorem readR_good (l : List Tok) (i : Nat) (hb : tokB l) (hi : i ≤ l.length) : Good Tryz.prog 53 [.sl 4 (toksV l), .int .i64 i] [] [.agg (readR l i).1.v, .int .i64 (readR l i).2.1, .int .i64 (readR l i).2.2] [] := by
  refine good_of hP Tryz.func53 (by kernel_rfl) (lv := [0, 1, 4, 5, 6, 7, 8, 16, 36, 39]) (js := []) ⟨rfl, rfl, rfl, rfl, rfl, rfl, _, rfl, ?_⟩
  have hs := Rd.rule_s (rd0 l i)
  unfold readR
  dsimp only
  conv => whnf
  refine call0 ((begin_good l i hb.1).1 ⟨by omega, by omega⟩) ?_
  conv => whnf
  refine callN [(1792, 0)] (rule_good (rd0 l i) hb) ?_ 
  conv => whnf
  refine ⟨⟨⟩, rfl, ?_⟩
  conv => whnf
  refine callN [(1792, 0)] (end_good (rd0 l i).rule.2 i) ?_ 
  conv => whnf
  refine ⟨⟨⟩, rfl, ?_⟩
  generalize (rd0 l i).rule = x at *
  by_cases he : x.2.endE = 0
  · rw [he, if_pos rfl]
    conv => whnf
    refine call0 (rcheck_good x.1 hs) ?_
    cases ruleOk x.1 with
    | true =>
      rw [if_pos rfl]
      conv => whnf
      exact fin0 rfl trivial
    | false =>
      rw [if_neg (by simp)]
      conv => whnf
      exact fin0 rfl trivial
  · rw [if_neg he]
    have e7 : x.2.endE = 7 := by
      unfold Rd.endE at *
      split
      · rfl
      · rename_i h; rw [if_neg h] at he; exact absurd rfl he
    rw [e7]
    conv => whnf
    exact fin0 rfl trivial
theorem readR_bad (l : List Tok) (i : Int) (hl : l.length ≤ 1000000) (hi : ¬ (0 ≤ i ∧ i ≤ l.length)) : Good Tryz.prog 53 [.sl 4 (toksV l), .int .i64 i] [] [.agg zeroR.v, .int .i64 0, .int .i64 1] [] := by
  refine good_of hP Tryz.func53 (by kernel_rfl) (lv := [0, 1, 4, 5, 6, 7, 8, 16, 36, 39]) (js := []) ⟨rfl, rfl, rfl, rfl, rfl, rfl, _, rfl, ?_⟩
  conv => whnf
  refine call0 ((begin_good l i hl).2 hi) ?_
  conv => whnf
  exact fin0 rfl trivial
theorem parseR_good (s : Bs) (hs : s.length ≤ 20000) : Good Tryz.prog 54 [.str s] [] [.agg (parseR s).1.v, .int .i64 (parseR s).2] [] := by
  refine good_of hP Tryz.func54 (by kernel_rfl) (lv := [0, 2, 3, 4, 6, 7, 8, 16, 32]) (js := []) ⟨rfl, rfl, rfl, rfl, rfl, rfl, _, rfl, ?_⟩
  have hb := tokB_R s hs
  unfold parseR
  conv => whnf
  refine call0 (tokens_good s hs) ?_
  by_cases he : errR s = 0
  · rw [he, if_pos rfl]
    generalize posR s = z1
    generalize toksR s = l at *
    dsimp only
    conv => whnf
    refine call0 (readR_good l 0 hb (Nat.zero_le _)) ?_
    generalize readR l 0 = x
    conv => whnf
    refine branch_of (fun h => ?_) (fun h => ?_)
    · rw [Bool.not_eq_true'] at h
      have h := of_decide_eq_false h
      rw [if_neg (fun q => h q.1)]
      conv => whnf
      exact fin0 rfl trivial
    rw [Bool.not_eq_false'] at h
    have h := of_decide_eq_true h
    conv => whnf
    refine branch_of (fun h2 => ?_) (fun h2 => ?_)
    · have h2 := of_decide_eq_true h2
      rw [List.length_map] at h2
      rw [if_neg (fun q => q.2 (by omega))]
      conv => whnf
      exact fin0 rfl trivial
    · have h2 := of_decide_eq_false h2
      rw [List.length_map] at h2
      rw [if_pos ⟨h, by omega⟩]
      conv => whnf
      exact fin0 rfl trivial
  · rw [if_neg he]
    generalize posR s = z1
    conv => whnf
    refine branch_of (fun h => ?_) (fun h => ?_)
    · conv => whnf
      exact fin0 rfl trivial
    · exact absurd (of_decide_eq_true (by simpa using h)) he
end Go.PV
namespace Go.PV
open Go
/-! law 11: small things -/
theorem any_take_drop {α : Type} {p : α → Bool} {l : List α} {k : Nat} (h : k < l.length) (hp : p l[k] = false) : (l.drop k).any p = (l.drop (k + 1)).any p := by
  rw [List.drop_eq_getElem_cons h, List.any_cons, hp, Bool.false_or]
theorem any_true {α : Type} {p : α → Bool} {l : List α} {k : Nat} (h : k < l.length) (hp : p l[k] = true) : (l.drop k).any p = true := by
  rw [List.drop_eq_getElem_cons h, List.any_cons, hp, Bool.true_or]
def rW : Bs := [114, 117, 108, 101, 32, 97, 32, 45, 53, 58, 32, 112, 40, 88, 41, 44, 32, 110, 111, 116, 32, 113, 40, 88, 41, 44, 32, 91, 88, 32, 60, 32, 51, 93, 32, 45, 62, 32, 43, 114, 40, 40, 88, 32, 43, 32, 49, 41, 41, 44, 32, 100, 114, 111, 112, 32, 48, 46]
def rB : Bs := [114, 117, 108, 101, 32, 97, 32, 48, 58, 32, 110, 111, 116, 32, 112, 32, 45, 62, 32, 43, 113, 46]
def rR : Rul := ⟨[97], -5, [⟨1, ⟨[112], [⟨[88], zeroV⟩]⟩, 0, [], []⟩, ⟨2, ⟨[113], [⟨[88], zeroV⟩]⟩, 0, [], []⟩, ⟨3, zeroA, 3, [⟨1, [88], zeroV⟩], [⟨2, [], ⟨1, 3, []⟩⟩]⟩],
  [⟨1, [114], [[⟨1, [88], zeroV⟩, ⟨2, [], ⟨1, 1, []⟩⟩, ⟨3, [], zeroV⟩]], 0⟩, ⟨2, [], [], 0⟩]⟩
set_option maxRecDepth 100000 in
theorem rW_p : parseR rW = (rR, 0) := by decide +kernel
set_option maxRecDepth 100000 in
theorem rB_p : (parseR rB).2 = 7 := by decide +kernel
set_option maxRecDepth 100000 in
theorem rR_t : ruleE rR = 0 ∧ ruleX rR = rW := by decide +kernel
end Go.PV
namespace Go.PV
open Go Go.Proofs
set_option maxRecDepth 100000
def condH (c : Cnd) : Bool := atmH c.a || (opsH c.l || opsH c.r)
def actH (x : Act) : Bool := (decide (200 < x.n.length) || decide (20 < x.a.length)) || x.a.any opsH
def rulH (r : Rul) : Bool := (decide (200 < r.n.length) || (decide (20 < r.c.length) || decide (20 < r.a.length))) || (r.c.any condH || r.a.any actH)
theorem heavyC_good (c : Cnd) : Good Tryz.prog 105 [.agg c.c] [] [.bool (condH c)] [] := by
  obtain ⟨k, a, h, l, r⟩ := c
  refine good_of hP Tryz.func105 (by kernel_rfl) (lv := [0, 1, 2]) (js := []) ⟨rfl, rfl, rfl, rfl, rfl, rfl, _, rfl, ?_⟩
  unfold condH
  dsimp only
  conv => whnf
  refine call0 (heavyA_good a) ?_
  cases atmH a with
  | true =>
    conv => whnf
    exact fin0 rfl trivial
  | false =>
  rw [Bool.false_or]
  conv => whnf
  refine call0 (heavyX_good l) ?_
  cases opsH l with
  | true =>
    conv => whnf
    exact fin0 rfl trivial
  | false =>
  rw [Bool.false_or]
  conv => whnf
  refine call0 (heavyX_good r) ?_
  conv => whnf
  exact fin0 rfl trivial
theorem heavyR_good (r : Rul) : Good Tryz.prog 50 [.agg r.v] [] [.bool (rulH r)] [] := by
  obtain ⟨n, p, c, a⟩ := r
  refine good_of hP Tryz.func50 (by kernel_rfl) (lv := [0, 1, 2, 3, 4, 5, 21, 26, 34, 39, 59, 68, 80]) (js := []) ⟨rfl, rfl, rfl, rfl, rfl, rfl, _, rfl, ?_⟩
  have e0 : rulH ⟨n, p, c, a⟩ = ((decide (200 < n.length) || (decide (20 < c.length) || decide (20 < a.length))) || (c.any condH || a.any actH)) := rfl
  conv => whnf
  refine branch_of (fun h1 => ?_) (fun h1 => ?_)
  · have h1 := of_decide_eq_true h1
    have e : rulH ⟨n, p, c, a⟩ = true := by rw [e0, decide_eq_true (by dsimp only at h1; omega)]; rfl
    rw [e]
    conv => whnf
    exact fin0 rfl trivial
  have h1 := of_decide_eq_false h1
  conv => whnf
  refine branch_of (fun h2 => ?_) (fun h2 => ?_)
  · have h2 := of_decide_eq_true h2
    rw [List.length_map] at h2
    have e : rulH ⟨n, p, c, a⟩ = true := by rw [e0, show decide (20 < c.length) = true from decide_eq_true (by dsimp only at h2; omega)]; simp
    rw [e]
    conv => whnf
    exact fin0 rfl trivial
  have h2 := of_decide_eq_false h2
  rw [List.length_map] at h2
  conv => whnf
  refine branch_of (fun h3 => ?_) (fun h3 => ?_)
  · have h3 := of_decide_eq_true h3
    rw [List.length_map] at h3
    have e : rulH ⟨n, p, c, a⟩ = true := by rw [e0, show decide (20 < a.length) = true from decide_eq_true (by dsimp only at h3; omega)]; simp
    rw [e]
    conv => whnf
    exact fin0 rfl trivial
  have h3 := of_decide_eq_false h3
  rw [List.length_map] at h3
  dsimp only at h1 h2 h3
  have e1 : rulH ⟨n, p, c, a⟩ = (c.any condH || a.any actH) := by
    rw [e0, decide_eq_false (by omega : ¬ 200 < n.length), decide_eq_false (by omega : ¬ 20 < c.length), decide_eq_false (by omega : ¬ 20 < a.length)]; rfl
  rw [e1]
  conv => whnf
  refine loop_of hP [0, 1, 2, 3, 4, 5, 21, 26, 34, 39, 59, 68, 80] [] [1, 2, 3] [65] [] (fun m st => ∃ k : Nat, m = c.length - k ∧ k ≤ c.length ∧ c.any condH = (c.drop k).any condH ∧ st = ⟨[(1, .ptr 65 0 0), (2, .bool false), (3, .int .i64 k)], [(65, .box 0 (Rul.v ⟨n, p, c, a⟩))]⟩) c.length ?_ ?_
  · conv => whnf
    exact ⟨0, rfl, Nat.zero_le _, rfl, rfl⟩
  · rintro m st ⟨k, rfl, hk, he, rfl⟩
    conv => whnf
    refine branch_of (fun h => ?_) (fun h => ?_)
    · have h := of_decide_eq_true h
      rw [List.length_map] at h
      have hk' : k < c.length := by dsimp only at h; omega
      rw [anyL_step hk'] at he
      conv => whnf
      refine ⟨Cnd.c c[k], idxM hk' rfl, ?_⟩
      conv => whnf
      refine call0 (heavyC_good c[k]) ?_
      cases hc : condH c[k] with
      | true =>
        rw [hc, Bool.true_or] at he
        rw [he]
        conv => whnf
        exact fin0 rfl trivial
      | false =>
        rw [hc, Bool.false_or] at he
        conv => whnf
        refine ⟨c.length - (k + 1), by omega, k + 1, rfl, by omega, he, ?_⟩
        rw [wr (by omega) (by omega)]; rfl
    · have h := of_decide_eq_false h
      rw [List.length_map] at h
      have hd : c.drop k = [] := List.drop_eq_nil_iff.2 (by dsimp only at h; omega)
      rw [hd] at he
      rw [he, show ([] : List Cnd).any condH = false from rfl, Bool.false_or]
      conv => whnf
      refine loop_of hP [0, 1, 2, 3, 4, 5, 21, 26, 34, 39, 59, 68, 80] [] [1, 2, 4] [65] [] (fun m st => ∃ k : Nat, m = a.length - k ∧ k ≤ a.length ∧ a.any actH = (a.drop k).any actH ∧ st = ⟨[(1, .ptr 65 0 0), (2, .bool false), (4, .int .i64 k)], [(65, .box 0 (Rul.v ⟨n, p, c, a⟩))]⟩) a.length ?_ ?_
      · conv => whnf
        exact ⟨0, rfl, Nat.zero_le _, rfl, rfl⟩
      · rintro m st ⟨j, rfl, hj, hf, rfl⟩
        conv => whnf
        refine branch_of (fun g => ?_) (fun g => ?_)
        · have g := of_decide_eq_true g
          rw [List.length_map] at g
          have hj' : j < a.length := by dsimp only at g; omega
          rw [anyL_step hj'] at hf
          have e2 : actH a[j] = ((decide (200 < a[j].n.length) || decide (20 < a[j].a.length)) || a[j].a.any opsH) := rfl
          conv => whnf
          refine ⟨Act.c a[j], idxM hj' rfl, ?_⟩
          conv => whnf
          refine branch_of (fun g1 => ?_) (fun g1 => ?_)
          · have g1 := of_decide_eq_true g1
            have e : actH a[j] = true := by rw [e2, show decide (200 < a[j].n.length) = true from decide_eq_true (by omega)]; simp
            rw [e, Bool.true_or] at hf
            rw [hf]
            conv => whnf
            exact fin0 rfl trivial
          have g1 := of_decide_eq_false g1
          conv => whnf
          refine ⟨Act.c a[j], idxM hj' rfl, ?_⟩
          conv => whnf
          refine branch_of (fun g2 => ?_) (fun g2 => ?_)
          · have g2 := of_decide_eq_true g2
            rw [List.length_map] at g2
            have e : actH a[j] = true := by rw [e2, show decide (20 < a[j].a.length) = true from decide_eq_true (by omega)]; simp
            rw [e, Bool.true_or] at hf
            rw [hf]
            conv => whnf
            exact fin0 rfl trivial
          have g2 := of_decide_eq_false g2
          rw [List.length_map] at g2
          have e3 : actH a[j] = a[j].a.any opsH := by
            rw [e2, show decide (200 < a[j].n.length) = false from decide_eq_false (by omega), show decide (20 < a[j].a.length) = false from decide_eq_false (by omega)]; rfl
          rw [e3] at hf
          conv => whnf
          refine loop_of hP [0, 1, 2, 3, 4, 5, 21, 26, 34, 39, 59, 68, 80] [] [1, 2, 4, 5] [65] [] (fun m st => ∃ i : Nat, m = a[j].a.length - i ∧ i ≤ a[j].a.length ∧ a[j].a.any opsH = (a[j].a.drop i).any opsH ∧ st = ⟨[(1, .ptr 65 0 0), (2, .bool false), (4, .int .i64 j), (5, .int .i64 i)], [(65, .box 0 (Rul.v ⟨n, p, c, a⟩))]⟩) a[j].a.length ?_ ?_
          · conv => whnf
            exact ⟨0, rfl, Nat.zero_le _, rfl, rfl⟩
          · rintro m st ⟨i, rfl, hi, hz, rfl⟩
            conv => whnf
            refine ⟨Act.c a[j], idxM hj' rfl, ?_⟩
            conv => whnf
            refine branch_of (fun q => ?_) (fun q => ?_)
            · have q := of_decide_eq_true q
              rw [List.length_map] at q
              have hi' : i < a[j].a.length := by omega
              rw [anyL_step hi'] at hz
              conv => whnf
              refine ⟨Act.c a[j], idxM hj' rfl, ?_⟩
              conv => whnf
              refine ⟨[.sl 5 (stpV a[j].a[i])], idxM (f := fun x : List Stp => [V.sl 5 (stpV x)]) hi' rfl, ?_⟩
              conv => whnf
              refine call0 (heavyX_good a[j].a[i]) ?_
              cases ho : opsH a[j].a[i] with
              | true =>
                rw [ho, Bool.true_or] at hz
                rw [hz, Bool.true_or] at hf
                rw [hf]
                conv => whnf
                exact fin0 rfl trivial
              | false =>
                rw [ho, Bool.false_or] at hz
                conv => whnf
                refine ⟨a[j].a.length - (i + 1), by omega, i + 1, rfl, by omega, hz, ?_⟩
                rw [wr (by omega) (by omega)]; rfl
            · have q := of_decide_eq_false q
              rw [List.length_map] at q
              have hd : a[j].a.drop i = [] := List.drop_eq_nil_iff.2 (by omega)
              rw [hd] at hz
              rw [hz, show ([] : List (List Stp)).any opsH = false from rfl, Bool.false_or] at hf
              conv => whnf
              refine ⟨a.length - (j + 1), by omega, j + 1, rfl, by omega, hf, ?_⟩
              rw [wr (by omega) (by omega)]; rfl
        · have g := of_decide_eq_false g
          rw [List.length_map] at g
          have hd : a.drop j = [] := List.drop_eq_nil_iff.2 (by dsimp only at g; omega)
          rw [hd] at hf
          rw [hf]
          conv => whnf
          exact fin0 rfl trivial
theorem rulH_B {r : Rul} (h : rulH r = false) : rulB r := by
  unfold rulH at h
  simp only [Bool.or_eq_false_iff, decide_eq_false_iff_not, List.any_eq_false] at h
  obtain ⟨⟨h1, h2, h3⟩, h4, h5⟩ := h
  have cb : ∀ c : Cnd, condH c = false → cndB c := fun c hc => by
    unfold condH at hc
    simp only [Bool.or_eq_false_iff] at hc
    obtain ⟨q1, q2, q3⟩ := hc
    unfold atmH trmH at q1
    unfold opsH stpH at q2 q3
    simp at q1 q2 q3
    exact ⟨by omega, by omega, fun t ht => by have := q1.2 t ht; exact ⟨by omega, by omega⟩, by omega, fun o ho => by have := q2.2 o ho; exact ⟨by omega, by omega⟩, by omega, fun o ho => by have := q3.2 o ho; exact ⟨by omega, by omega⟩⟩
  have ab : ∀ x : Act, actH x = false → actB x := fun x hx => by
    unfold actH at hx
    simp only [Bool.or_eq_false_iff, decide_eq_false_iff_not, List.any_eq_false] at hx
    obtain ⟨⟨q1, q2⟩, q3⟩ := hx
    refine ⟨by omega, by omega, fun l hl => ?_⟩
    have := q3 l hl
    unfold opsH stpH at this
    simp at this
    exact ⟨by omega, fun o ho => by have := this.2 o ho; exact ⟨by omega, by omega⟩⟩
  exact ⟨by omega, by omega, fun c hc => cb c (by simpa using h4 c hc), by omega, fun x hx => ab x (by simpa using h5 x hx)⟩
theorem rR_B : rulB rR := Rd.rule_s (rd0 (toksR rW) 0) |> fun h => by
  have e : (rd0 (toksR rW) 0).rule.1 = rR := by decide +kernel
  rw [e] at h; exact h
theorem wakes11_good : Good Tryz.prog 60 [] [] [.bool true] [] := by
  refine good_of hP Tryz.func60 (by kernel_rfl) (lv := [0, 1, 2, 3, 4, 5, 7]) (js := []) ⟨rfl, rfl, rfl, rfl, rfl, rfl, _, rfl, ?_⟩
  conv => whnf
  refine call0 (parseR_good rW (by decide)) ?_
  rw [rW_p]
  conv => whnf
  refine call0 (rtext_good rR rR_B) ?_
  rw [rR_t.1, rR_t.2]
  conv => whnf
  refine call0 (parseR_good rB (by decide)) ?_
  rw [rB_p]
  generalize (parseR rB).1 = z
  conv => whnf
  refine call0 (rcheck_good zeroR ⟨Nat.zero_le _, Nat.zero_le _, fun c hc => absurd hc List.not_mem_nil, Nat.zero_le _, fun c hc => absurd hc List.not_mem_nil⟩) ?_
  conv => whnf
  exact fin0 rfl trivial
end Go.PV
namespace Go.PV
open Go Go.Proofs
set_option maxRecDepth 100000
theorem keepCond_good (x y : Cnd) (hx : cndB x) : Good Tryz.prog 182 [.agg x.c, .agg y.c] [] [.bool (decide (x = y))] [] := by
  obtain ⟨k, a, h, l, r⟩ := x
  obtain ⟨k2, a2, h2, l2, r2⟩ := y
  obtain ⟨b1, b2, b3, b4, b5, b6, b7⟩ := hx
  dsimp only at b1 b2 b3 b4 b5 b6 b7
  have e : decide ((⟨k, a, h, l, r⟩ : Cnd) = ⟨k2, a2, h2, l2, r2⟩) = (decide (k = k2) && (decide (a = a2) && (decide (h = h2) && (decide (l = l2) && decide (r = r2))))) := by
    rw [Bool.eq_iff_iff]; simp
  rw [e]
  refine good_of hP Tryz.func182 (by kernel_rfl) (lv := [0, 1, 2, 3, 4]) (js := []) ⟨rfl, rfl, rfl, rfl, rfl, rfl, _, rfl, ?_⟩
  conv => whnf
  cases decide (k = k2) with
  | false =>
    conv => whnf
    exact fin0 rfl trivial
  | true =>
  rw [Bool.true_and]
  conv => whnf
  refine call0 (keepAtom_good a a2 b2) ?_
  cases decide (a = a2) with
  | false =>
    conv => whnf
    exact fin0 rfl trivial
  | true =>
  rw [Bool.true_and]
  conv => whnf
  cases decide (h = h2) with
  | false =>
    conv => whnf
    exact fin0 rfl trivial
  | true =>
  rw [Bool.true_and]
  conv => whnf
  refine call0 (keepOps_good l l2 b4) ?_
  cases decide (l = l2) with
  | false =>
    conv => whnf
    exact fin0 rfl trivial
  | true =>
  rw [Bool.true_and]
  conv => whnf
  refine call0 (keepOps_good r r2 b6) ?_
  conv => whnf
  exact fin0 rfl trivial
theorem keepConds_good (a b : List Cnd) (ha : a.length ≤ 1000000) (hb : ∀ c ∈ a, cndB c) : Good Tryz.prog 115 [.sl 6 (cndV a), .sl 6 (cndV b)] [] [.bool (decide (a = b))] [] := by
  refine good_of hP Tryz.func115 (by kernel_rfl) (lv := [0, 1, 4, 5, 10, 14, 26]) (js := []) ⟨rfl, rfl, rfl, rfl, rfl, rfl, _, rfl, ?_⟩
  conv => whnf
  refine branch_of (fun h => ?_) (fun h => ?_)
  · rw [Bool.not_eq_true'] at h
    have h := of_decide_eq_false h
    rw [List.length_map, List.length_map] at h
    have e : decide (a = b) = false := decide_eq_false (by rintro rfl; exact h rfl)
    rw [e]
    conv => whnf
    exact fin0 rfl trivial
  rw [Bool.not_eq_false'] at h
  have h := of_decide_eq_true h
  rw [List.length_map, List.length_map] at h
  have hl : a.length = b.length := by omega
  conv => whnf
  refine loop_of hP [0, 1, 4, 5, 10, 14, 26] [] [0, 1, 4, 5] [] [] (fun n st => ∃ k : Nat, n = a.length - k ∧ k ≤ a.length ∧ (∀ j (h1 : j < a.length) (h2 : j < b.length), j < k → a[j] = b[j]) ∧ st = ⟨[(0, .sl 6 (cndV a)), (1, .sl 6 (cndV b)), (4, .bool false), (5, .int .i64 k)], []⟩) a.length ?_ ?_
  · conv => whnf
    exact ⟨0, rfl, Nat.zero_le _, fun j _ _ h => by omega, rfl⟩
  · rintro n st ⟨k, rfl, hk, hn, rfl⟩
    conv => whnf
    refine branch_of (fun h => ?_) (fun h => ?_)
    · have h := of_decide_eq_true h
      rw [List.length_map] at h
      have hk' : k < a.length := by omega
      have hk2 : k < b.length := by omega
      conv => whnf
      refine ⟨Cnd.c a[k], idxM hk' rfl, ?_⟩
      conv => whnf
      refine ⟨Cnd.c b[k], idxM hk2 rfl, ?_⟩
      conv => whnf
      refine call0 (keepCond_good a[k] b[k] (hb _ (List.getElem_mem hk'))) ?_
      cases hq : decide (a[k] = b[k]) with
      | false =>
        have hq := of_decide_eq_false hq
        have e : decide (a = b) = false := decide_eq_false (by rintro rfl; exact hq rfl)
        rw [e]
        conv => whnf
        refine ⟨by kernel_rfl, ?_⟩
        conv => whnf
        exact fin0 rfl trivial
      | true =>
        have hq := of_decide_eq_true hq
        conv => whnf
        refine ⟨by kernel_rfl, ?_⟩
        conv => whnf
        refine ⟨a.length - (k + 1), by omega, k + 1, rfl, by omega, fun j h1 h3 hj => ?_, ?_⟩
        · by_cases e : j = k
          · subst e; exact hq
          · exact hn j h1 h3 (by omega)
        · rw [wr (by omega) (by omega)]; rfl
    · have h := of_decide_eq_false h
      rw [List.length_map] at h
      have e : decide (a = b) = true := decide_eq_true (List.ext_getElem hl fun j h1 h2 => hn j h1 h2 (by omega))
      rw [e]
      conv => whnf
      exact fin0 rfl trivial
theorem keepAct_good (x y : Act) (hx : actB x) : Good Tryz.prog 116 [.agg x.c, .agg y.c] [] [.bool (decide (x = y))] [] := by
  obtain ⟨k, n, a, w⟩ := x
  obtain ⟨k2, n2, b, w2⟩ := y
  obtain ⟨b1, b2, b3⟩ := hx
  dsimp only at b1 b2 b3
  have e : decide ((⟨k, n, a, w⟩ : Act) = ⟨k2, n2, b, w2⟩) = (decide (k = k2) && (decide (n = n2) && (decide (w = w2) && decide (a = b)))) := by
    rw [Bool.eq_iff_iff]; simp; intro _ _; exact and_comm
  rw [e]
  refine good_of hP Tryz.func116 (by kernel_rfl) (lv := [0, 1, 2, 3, 4, 5, 33, 38, 52]) (js := []) ⟨rfl, rfl, rfl, rfl, rfl, rfl, _, rfl, ?_⟩
  conv => whnf
  cases decide (k = k2) with
  | false =>
    conv => whnf
    exact fin0 rfl trivial
  | true =>
  rw [Bool.true_and]
  conv => whnf
  cases decide (n = n2) with
  | false =>
    conv => whnf
    exact fin0 rfl trivial
  | true =>
  rw [Bool.true_and]
  conv => whnf
  cases decide (w = w2) with
  | false =>
    conv => whnf
    exact fin0 rfl trivial
  | true =>
  rw [Bool.true_and]
  conv => whnf
  refine branch_of (fun h => ?_) (fun h => ?_)
  · rw [Bool.not_eq_true'] at h
    have h := of_decide_eq_false h
    rw [List.length_map, List.length_map] at h
    have e : decide (a = b) = false := decide_eq_false (by rintro rfl; exact h rfl)
    rw [e]
    conv => whnf
    exact fin0 rfl trivial
  rw [Bool.not_eq_false'] at h
  have h := of_decide_eq_true h
  rw [List.length_map, List.length_map] at h
  have hl : a.length = b.length := by dsimp only at h; omega
  conv => whnf
  refine loop_of hP [0, 1, 2, 3, 4, 5, 33, 38, 52] [] [2, 3, 4, 5] [66, 67] [] (fun m st => ∃ i : Nat, m = a.length - i ∧ i ≤ a.length ∧ (∀ j (h1 : j < a.length) (h2 : j < b.length), j < i → a[j] = b[j]) ∧ st = ⟨[(2, .ptr 66 0 0), (3, .ptr 67 0 0), (4, .bool false), (5, .int .i64 i)], [(66, .box 0 (Act.c ⟨k, n, a, w⟩)), (67, .box 0 (Act.c ⟨k2, n2, b, w2⟩))]⟩) a.length ?_ ?_
  · conv => whnf
    exact ⟨0, rfl, Nat.zero_le _, fun j _ _ h => by omega, rfl⟩
  · rintro m st ⟨i, rfl, hi, hn, rfl⟩
    conv => whnf
    refine branch_of (fun h => ?_) (fun h => ?_)
    · have h := of_decide_eq_true h
      rw [List.length_map] at h
      have hk' : i < a.length := by dsimp only at h; omega
      have hk2 : i < b.length := by omega
      conv => whnf
      refine ⟨[.sl 5 (stpV a[i])], idxM (f := fun x : List Stp => [V.sl 5 (stpV x)]) hk' rfl, ?_⟩
      conv => whnf
      refine ⟨[.sl 5 (stpV b[i])], idxM (f := fun x : List Stp => [V.sl 5 (stpV x)]) hk2 rfl, ?_⟩
      conv => whnf
      refine call0 (keepOps_good a[i] b[i] (b3 _ (List.getElem_mem hk')).1) ?_
      cases hq : decide (a[i] = b[i]) with
      | false =>
        have hq := of_decide_eq_false hq
        have e : decide (a = b) = false := decide_eq_false (by rintro rfl; exact hq rfl)
        rw [e]
        conv => whnf
        refine ⟨by kernel_rfl, ?_⟩
        conv => whnf
        exact fin0 rfl trivial
      | true =>
        have hq := of_decide_eq_true hq
        conv => whnf
        refine ⟨by kernel_rfl, ?_⟩
        conv => whnf
        refine ⟨a.length - (i + 1), by omega, i + 1, rfl, by omega, fun j h1 h3 hj => ?_, ?_⟩
        · by_cases e : j = i
          · subst e; exact hq
          · exact hn j h1 h3 (by omega)
        · rw [wr (by omega) (by omega)]; rfl
    · have h := of_decide_eq_false h
      rw [List.length_map] at h
      dsimp only at h
      have e : decide (a = b) = true := decide_eq_true (List.ext_getElem hl fun j h1 h2 => hn j h1 h2 (by omega))
      rw [e]
      conv => whnf
      exact fin0 rfl trivial
theorem keepRule_good (x y : Rul) (hx : rulB x) : Good Tryz.prog 57 [.agg x.v, .agg y.v] [] [.bool (decide (x = y))] [] := by
  obtain ⟨n, p, c, a⟩ := x
  obtain ⟨n2, p2, c2, b⟩ := y
  obtain ⟨b1, b2, b3, b4, b5⟩ := hx
  dsimp only at b1 b2 b3 b4 b5
  have e : decide ((⟨n, p, c, a⟩ : Rul) = ⟨n2, p2, c2, b⟩) = (decide (n = n2) && (decide (p = p2) && (decide (c = c2) && decide (a = b)))) := by
    rw [Bool.eq_iff_iff]; simp
  rw [e]
  refine good_of hP Tryz.func57 (by kernel_rfl) (lv := [0, 1, 2, 3, 4, 5, 34, 39, 53]) (js := []) ⟨rfl, rfl, rfl, rfl, rfl, rfl, _, rfl, ?_⟩
  conv => whnf
  cases decide (n = n2) with
  | false =>
    conv => whnf
    exact fin0 rfl trivial
  | true =>
  rw [Bool.true_and]
  conv => whnf
  cases decide (p = p2) with
  | false =>
    conv => whnf
    exact fin0 rfl trivial
  | true =>
  rw [Bool.true_and]
  conv => whnf
  refine call0 (keepConds_good c c2 b2 b3) ?_
  cases decide (c = c2) with
  | false =>
    conv => whnf
    exact fin0 rfl trivial
  | true =>
  rw [Bool.true_and]
  conv => whnf
  refine branch_of (fun h => ?_) (fun h => ?_)
  · rw [Bool.not_eq_true'] at h
    have h := of_decide_eq_false h
    rw [List.length_map, List.length_map] at h
    have e : decide (a = b) = false := decide_eq_false (by rintro rfl; exact h rfl)
    rw [e]
    conv => whnf
    exact fin0 rfl trivial
  rw [Bool.not_eq_false'] at h
  have h := of_decide_eq_true h
  rw [List.length_map, List.length_map] at h
  have hl : a.length = b.length := by dsimp only at h; omega
  conv => whnf
  refine loop_of hP [0, 1, 2, 3, 4, 5, 34, 39, 53] [] [2, 3, 4, 5] [66, 67] [] (fun m st => ∃ i : Nat, m = a.length - i ∧ i ≤ a.length ∧ (∀ j (h1 : j < a.length) (h2 : j < b.length), j < i → a[j] = b[j]) ∧ st = ⟨[(2, .ptr 66 0 0), (3, .ptr 67 0 0), (4, .bool false), (5, .int .i64 i)], [(66, .box 0 (Rul.v ⟨n, p, c, a⟩)), (67, .box 0 (Rul.v ⟨n2, p2, c2, b⟩))]⟩) a.length ?_ ?_
  · conv => whnf
    exact ⟨0, rfl, Nat.zero_le _, fun j _ _ h => by omega, rfl⟩
  · rintro m st ⟨i, rfl, hi, hn, rfl⟩
    conv => whnf
    refine branch_of (fun h => ?_) (fun h => ?_)
    · have h := of_decide_eq_true h
      rw [List.length_map] at h
      have hk' : i < a.length := by dsimp only at h; omega
      have hk2 : i < b.length := by omega
      conv => whnf
      refine ⟨Act.c a[i], idxM hk' rfl, ?_⟩
      conv => whnf
      refine ⟨Act.c b[i], idxM hk2 rfl, ?_⟩
      conv => whnf
      refine call0 (keepAct_good a[i] b[i] (b5 _ (List.getElem_mem hk'))) ?_
      cases hq : decide (a[i] = b[i]) with
      | false =>
        have hq := of_decide_eq_false hq
        have e : decide (a = b) = false := decide_eq_false (by rintro rfl; exact hq rfl)
        rw [e]
        conv => whnf
        refine ⟨by kernel_rfl, ?_⟩
        conv => whnf
        exact fin0 rfl trivial
      | true =>
        have hq := of_decide_eq_true hq
        conv => whnf
        refine ⟨by kernel_rfl, ?_⟩
        conv => whnf
        refine ⟨a.length - (i + 1), by omega, i + 1, rfl, by omega, fun j h1 h3 hj => ?_, ?_⟩
        · by_cases e : j = i
          · subst e; exact hq
          · exact hn j h1 h3 (by omega)
        · rw [wr (by omega) (by omega)]; rfl
    · have h := of_decide_eq_false h
      rw [List.length_map] at h
      dsimp only at h
      have e : decide (a = b) = true := decide_eq_true (List.ext_getElem hl fun j h1 h2 => hn j h1 h2 (by omega))
      rw [e]
      conv => whnf
      exact fin0 rfl trivial
end Go.PV
namespace Go.PV
open Go
/-! rules: what is written is read -/
noncomputable def treeOf (l : List Stp) : Tree := if h : exprOk l = true then Classical.choose (Tree.of_ok h) else .leaf zeroT
theorem treeOf_ok {l : List Stp} (h : exprOk l = true) : (treeOf l).ok = true ∧ (treeOf l).ops = l ∧ (treeOf l).size ≤ 15 ∧ (treeOf l).txt = exprT l := by
  have e : treeOf l = Classical.choose (Tree.of_ok h) := by unfold treeOf; rw [dif_pos h]
  obtain ⟨h1, h2, h3⟩ := Classical.choose_spec (Tree.of_ok h)
  rw [e]
  exact ⟨h1, h2, h3, by rw [← Tree.exprT_ops h1, h2]⟩
noncomputable def exprK (b : Bs) (l : List Stp) : List (Bs × KT) := (treeOf l).toks b
theorem exprK_T {l : List Stp} (h : exprOk l = true) (b : Bs) : weaveK (exprK b l) = b ++ exprT l := by
  unfold exprK; rw [Tree.weave_toks, (treeOf_ok h).2.2.2]
noncomputable def manyK {α : Type} (k : Bs → α → List (Bs × KT)) (xs : List α) : List (Bs × KT) := xs.flatMap fun x => ([], (5, [44])) :: k [32] x
theorem manyK_T {α : Type} {k : Bs → α → List (Bs × KT)} {t : α → Bs} : ∀ {xs : List α}, (∀ x ∈ xs, weaveK (k [32] x) = 32 :: t x) → weaveK (manyK k xs) = Lib.joinTail [44, 32] (xs.map t)
  | [], _ => rfl
  | x :: r, h => by
    have ih := manyK_T (xs := r) (fun y hy => h y (by simp [hy]))
    have e : manyK k (x :: r) = ([], (5, [44])) :: (k [32] x ++ manyK k r) := by simp [manyK]
    rw [e, weaveK, weaveK_app, h x (by simp), ih]
    simp [Lib.joinTail]
theorem wov_many {α : Type} {k : Bs → α → List (Bs × KT)} {t : α → Bs} {tail : Bs} (ht : stopH tail = true) : ∀ {xs : List α}, (∀ x ∈ xs, weaveK (k [32] x) = 32 :: t x) → (∀ x ∈ xs, ∀ w, stopH w = true → WovK w (k [32] x)) → WovK tail (manyK k xs) ∧ stopH (weaveK (manyK k xs) ++ tail) = true
  | [], _, _ => ⟨trivial, ht⟩
  | x :: r, h, hw => by
    obtain ⟨i1, i2⟩ := wov_many ht (xs := r) (fun y hy => h y (by simp [hy])) (fun y hy => hw y (by simp [hy]))
    have e : manyK k (x :: r) = ([], (5, [44])) :: (k [32] x ++ manyK k r) := by simp [manyK]
    rw [e]
    refine ⟨⟨rfl, by unfold Tk; decide +kernel, ?_, WovK.app (hw x (by simp) _ i2) i1⟩, rfl⟩
    rw [weaveK_app, h x (by simp)]
    exact okEnd_stop rfl
noncomputable def condK (b : Bs) (c : Cnd) : List (Bs × KT) :=
  if c.k = 3 then (b, (5, [91])) :: (exprK [] c.l ++ ([32], (5, wayT c.h)) :: (exprK [32] c.r ++ [([], (5, [93]))]))
  else if c.k = 2 then (b, (1, [110, 111, 116])) :: atomK [32] c.a else atomK b c.a
noncomputable def actK (b : Bs) (x : Act) : List (Bs × KT) :=
  if x.k = 2 then [(b, (1, [100, 114, 111, 112])), ([32], (3, Lib.itoa x.w))]
  else (b, (5, [43])) :: ([], (1, x.n)) :: (match x.a with
    | [] => []
    | e :: es => ([], (5, [40])) :: (exprK [] e ++ (manyK exprK es ++ [([], (5, [41]))])))
theorem weave_atom (b : Bs) (a : Atm) : weaveK (atomK b a) = b ++ atomT a := weaveK_atomK b a
theorem condK_T {c : Cnd} (h : condOk c = true) (b : Bs) : weaveK (condK b c) = b ++ condT c := by
  unfold condK condT
  split
  · rename_i hk
    obtain ⟨_, _, _, h1, h2⟩ := condOk_3 h hk
    rw [weaveK, weaveK_app, exprK_T h1, weaveK, weaveK_app, exprK_T h2]
    simp [weaveK]
  · split
    · rw [weaveK, weave_atom]; simp
    · rw [weave_atom]
theorem actK_T {m : Int} {x : Act} (h : actOk m x = true) (b : Bs) : weaveK (actK b x) = b ++ actT x := by
  unfold actK actT
  split
  · simp [weaveK]
  · rename_i hk
    obtain ⟨_, _, _, _, h4⟩ := actOk_1 h hk
    obtain ⟨k, n, a, w⟩ := x
    dsimp only at h4 ⊢
    cases a with
    | nil => simp [weaveK]
    | cons e es =>
      rw [List.all_cons, Bool.and_eq_true] at h4
      have ht : ∀ l ∈ es, weaveK (exprK [32] l) = 32 :: exprT l := fun l hl => exprK_T (List.all_eq_true.1 h4.2 l hl) [32]
      rw [if_neg (by simp)]
      simp only [weaveK, weaveK_app, exprK_T h4.1, manyK_T ht, List.map_cons, Lib.join_cons]
      simp
theorem wov_expr {l : List Stp} (h : exprOk l = true) {b tail : Bs} (hb : blk b = true) (ht : stopH tail = true) : WovK tail (exprK b l) := Tree.wov (treeOf_ok h).1 b tail hb ht
theorem expr_head {l : List Stp} (h : exprOk l = true) (r : Bs) {x : UInt8} (hx : x ≠ 45) : okEnd (5, [x]) (exprT l ++ r) = true := by
  obtain ⟨c, u, e, h1, h2⟩ := Tree.txt_head (treeOf_ok h).1
  rw [(treeOf_ok h).2.2.2] at e
  rw [e]; exact okEnd_sign hx ⟨h1, h2⟩
theorem tk_way {h : Int} (h1 : 1 ≤ h) (h2 : h ≤ 4) : Tk (5, wayT h) ∧ ∀ r : Bs, okEnd (5, wayT h) (32 :: r) = true := by
  have : h = 1 ∨ h = 2 ∨ h = 3 ∨ h = 4 := by omega
  rcases this with rfl | rfl | rfl | rfl <;> exact ⟨by unfold Tk; decide +kernel, fun r => okEnd_stop rfl⟩
theorem wov_cond {c : Cnd} (h : condOk c = true) {b tail : Bs} (hb : blk b = true) (ht : stopH tail = true) : WovK tail (condK b c) := by
  unfold condK
  split
  · rename_i hk
    obtain ⟨_, w1, w2, h1, h2⟩ := condOk_3 h hk
    obtain ⟨q1, q2⟩ := tk_way w1 w2
    refine ⟨hb, by unfold Tk; decide +kernel, ?_, WovK.app (wov_expr h1 rfl rfl) ⟨rfl, q1, ?_, WovK.app (wov_expr h2 rfl rfl) ⟨rfl, by unfold Tk; decide +kernel, okEnd_stop ht, trivial⟩⟩⟩
    · rw [weaveK_app, exprK_T h1, List.nil_append, List.append_assoc]; exact expr_head h1 _ (by decide)
    · rw [weaveK_app, exprK_T h2]; exact q2 _
  · rename_i hk
    obtain ⟨_, _, _, _, h1⟩ := condOk_n h hk
    split
    · refine ⟨hb, by unfold Tk; decide +kernel, ?_, wov_atom ht rfl h1⟩
      rw [weave_atom]; exact okEnd_stop rfl
    · exact wov_atom ht hb h1
theorem wov_act {m : Int} (hm : m ≤ 1000) {x : Act} (h : actOk m x = true) {b tail : Bs} (hb : blk b = true) (ht : stopH tail = true) : WovK tail (actK b x) := by
  unfold actK
  split
  · rename_i hk
    obtain ⟨_, _, w1, w2⟩ := actOk_2 h hk
    have hr : inR x.w = true := by unfold inR; rw [decide_eq_true_iff]; omega
    exact ⟨hb, by unfold Tk; decide +kernel, okEnd_stop rfl, rfl, tk_num (by rw [refNum_itoa hr]; rfl), okEnd_stop ht, trivial⟩
  · rename_i hk
    obtain ⟨_, hn, _, _, h4⟩ := actOk_1 h hk
    have tn : Tk (1, x.n) := tk_word (large := false) (nameS_word hn)
    obtain ⟨k, n, a, w⟩ := x
    dsimp only at h4 hn tn ⊢
    cases a with
    | nil =>
      refine ⟨hb, by unfold Tk; decide +kernel, ?_, rfl, tn, okEnd_stop ht, trivial⟩
      rw [weaveK, List.nil_append, List.append_assoc]; exact okEnd_head (x := 43) (t := (1, n)) (by decide) tn (show (1 : Int) ≠ 5 by decide) _
    | cons e es =>
      rw [List.all_cons, Bool.and_eq_true] at h4
      have h5 : ∀ l ∈ es, exprOk l = true := fun l hl => List.all_eq_true.1 h4.2 l hl
      have ht2 : ∀ l ∈ es, weaveK (exprK [32] l) = 32 :: exprT l := fun l hl => exprK_T (h5 l hl) [32]
      obtain ⟨i1, i2⟩ := wov_many (k := exprK) (t := exprT) (tail := [41] ++ tail) rfl ht2 (fun l hl w hw => wov_expr (h5 l hl) rfl hw)
      have hw2 : WovK tail (manyK exprK es ++ [([], (5, [41]))]) := WovK.app (by simpa [weaveK] using i1) ⟨rfl, by unfold Tk; decide +kernel, okEnd_stop ht, trivial⟩
      refine ⟨hb, by unfold Tk; decide +kernel, ?_, rfl, tn, okEnd_stop rfl, rfl, by unfold Tk; decide +kernel, ?_, WovK.app (wov_expr h4.1 rfl ?_) hw2⟩
      · rw [weaveK, List.nil_append, List.append_assoc]; exact okEnd_head (x := 43) (t := (1, n)) (by decide) tn (show (1 : Int) ≠ 5 by decide) _
      · rw [weaveK_app, exprK_T h4.1, List.nil_append, List.append_assoc]; exact expr_head h4.1 _ (by decide)
      · rw [weaveK_app, List.append_assoc]; simpa [weaveK] using i2
end Go.PV
namespace Go.PV
open Go
/-! rules: their signs are read as them -/
namespace Rd
theorem rest_adv {r : Rd} {K m : List KT} (h : r.rest = K ++ m) : (r.adv K.length).rest = m := by
  unfold rest adv at *
  exact rest_add h
theorem adv_add (r : Rd) (a b : Nat) : (r.adv a).adv b = r.adv (a + b) := by unfold adv; dsimp only; rw [Nat.add_assoc]
theorem step_adv (r : Rd) (a : Nat) : r.step.adv a = r.adv (a + 1) := by unfold adv step; dsimp only; rw [Nat.add_assoc, Nat.add_comm 1]
theorem adv_step (r : Rd) (a : Nat) : (r.adv a).step = r.adv (a + 1) := rfl
theorem expr_restK {r : Rd} {l : List Stp} {b : Bs} {m : List KT} (h : exprOk l = true) (ho : r.isOpen = true) (hr : r.rest = (exprK b l).map (·.2) ++ m) : r.expr = (l, r.adv (exprK b l).length) := by
  have := expr_rest (treeOf_ok h).1 (treeOf_ok h).2.2.1 ho hr
  rw [this, (treeOf_ok h).2.1]; rfl
theorem way_rest {r : Rd} {h : Int} {m : List KT} (h1 : 1 ≤ h) (h2 : h ≤ 4) (ho : r.isOpen = true) (hr : r.rest = (5, wayT h) :: m) : r.way = (h, r.step) := by
  have hs := see_rest ho hr
  have hn : ∀ x : Bs, x ≠ wayT h → r.see 5 x = false := fun x hx => see_no (x := (5, x)) (by rw [hr]; simp; exact fun e => hx e.symm)
  unfold way
  have : h = 1 ∨ h = 2 ∨ h = 3 ∨ h = 4 := by omega
  rcases this with rfl | rfl | rfl | rfl
  · rw [if_pos (show r.see 5 [61] = true from hs)]
  · rw [if_neg (by rw [hn [61] (by decide)]; simp), if_pos (show r.see 5 [33, 61] = true from hs)]
  · rw [if_neg (by rw [hn [61] (by decide)]; simp), if_neg (by rw [hn [33, 61] (by decide)]; simp), if_pos (show r.see 5 [60] = true from hs)]
  · rw [if_neg (by rw [hn [61] (by decide)]; simp), if_neg (by rw [hn [33, 61] (by decide)]; simp), if_neg (by rw [hn [60] (by decide)]; simp), if_pos (show r.see 5 [60, 61] = true from hs)]
theorem num_rest {r : Rd} {n : Int} {m : List KT} (hn : inR n = true) (ho : r.isOpen = true) (hr : r.rest = (3, Lib.itoa n) :: m) : r.num = (n, r.step) := by
  unfold num
  rw [if_pos ho, (rest_cons hr).1]
  dsimp only
  rw [if_pos rfl, number_itoa hn]
theorem condR_rest {r : Rd} {c : Cnd} {b : Bs} {m : List KT} (h : condOk c = true) (ho : r.isOpen = true) (hr : r.rest = (condK b c).map (·.2) ++ m) (hm : m.head? ≠ some (5, [40])) : r.condR = (c, r.adv (condK b c).length) := by
  unfold condK at hr ⊢
  unfold condR
  by_cases hk : c.k = 3
  · rw [if_pos hk] at hr ⊢
    obtain ⟨ha, w1, w2, h1, h2⟩ := condOk_3 h hk
    have hr : r.rest = (5, [91]) :: ((exprK [] c.l).map (·.2) ++ ((5, wayT c.h) :: ((exprK [32] c.r).map (·.2) ++ (5, [93]) :: m))) := by rw [hr]; simp
    have hc := rest_cons hr
    rw [if_pos (show r.see 5 [91] = true from see_rest ho hr)]
    have q1 := expr_restK (r := r.step) h1 ho hc.2
    have r1 := rest_adv hc.2
    rw [List.length_map] at r1
    have q2 := way_rest (r := r.step.adv (exprK [] c.l).length) w1 w2 ho r1
    have r2 := (rest_cons r1).2
    have q3 := expr_restK (r := (r.step.adv (exprK [] c.l).length).step) h2 ho r2
    have r3 := rest_adv r2
    rw [List.length_map] at r3
    have q4 := want_rest (r := (r.step.adv (exprK [] c.l).length).step.adv (exprK [32] c.r).length) ho r3
    dsimp only
    rw [q1]
    dsimp only
    rw [q2]
    dsimp only
    rw [q3]
    dsimp only
    refine Prod.ext ?_ ?_
    · obtain ⟨k, a, hh, l, r'⟩ := c
      dsimp only at hk ha ⊢
      rw [hk, ha]
    · refine q4.trans ?_
      simp only [adv, step, List.length_cons, List.length_append, List.length_nil]
      congr 1; omega
  · rw [if_neg hk] at hr ⊢
    obtain ⟨hk2, hh, hl, hrr, h1⟩ := condOk_n h hk
    have hz : c = ⟨c.k, c.a, 0, [], []⟩ := by
      obtain ⟨k, a, hh', l, r'⟩ := c
      dsimp only at hh hl hrr ⊢
      rw [hh, hl, hrr]
    by_cases h2 : c.k = 2
    · rw [if_pos h2] at hr ⊢
      have hr : r.rest = (1, [110, 111, 116]) :: ((atomK [32] c.a).map (·.2) ++ m) := by rw [hr]; rfl
      have hc := rest_cons hr
      have n1 : r.see 5 [91] = false := see_no (x := (5, [91])) (by rw [hr]; simp)
      rw [if_neg (by rw [n1]; simp), if_pos (show r.see 1 [110, 111, 116] = true from see_rest ho hr)]
      have q := atom_rest (r := r.step) ho h1 hc.2 (fun _ => hm)
      dsimp only
      rw [q]
      refine Prod.ext ?_ ?_
      · rw [hz, h2]
      · dsimp only; rw [step_adv]; rfl
    · rw [if_neg h2] at hr ⊢
      have h1k : c.k = 1 := by omega
      have hr0 : r.rest = (1, c.a.n) :: ((argsK c.a.a).map (·.2) ++ m) := hr
      have hnm : nameS c.a.n = true := by unfold atomOk at h1; simp only [Bool.and_eq_true] at h1; exact h1.1.1
      have hnot : c.a.n ≠ [110, 111, 116] := by
        intro e; rw [e] at hnm; exact absurd hnm (by decide +kernel)
      have n1 : r.see 5 [91] = false := see_no (x := (5, [91])) (by rw [hr0]; simp)
      have n2 : r.see 1 [110, 111, 116] = false := see_no (x := (1, [110, 111, 116])) (by rw [hr0]; simp; exact hnot)
      rw [if_neg (by rw [n1]; simp), if_neg (by rw [n2]; simp)]
      have q := atom_rest (r := r) ho h1 hr (fun _ => hm)
      dsimp only
      rw [q]
      refine Prod.ext ?_ rfl
      rw [hz, h1k]
theorem many_rest {α : Type} {g : Rd → α × Rd} {k : Bs → α → List (Bs × KT)} {m : List KT} (hm : m.head? ≠ some (5, [44])) (hm2 : m.head? ≠ some (5, [40])) : ∀ (xs : List α) (f : Nat) (r : Rd), (∀ x ∈ xs, ∀ (r : Rd) (m : List KT), r.isOpen = true → r.rest = (k [32] x).map (·.2) ++ m → m.head? ≠ some (5, [40]) → g r = (x, r.adv (k [32] x).length)) →
    r.isOpen = true → r.rest = (manyK k xs).map (·.2) ++ m → xs.length ≤ f → many g f r = (xs, r.adv (manyK k xs).length)
  | [], f, r, _, ho, hr, _ => by
    have hs : r.see 5 [44] = false := see_no (x := (5, [44])) (by rw [hr]; exact hm)
    cases f <;> simp [many, hs] <;> rfl
  | x :: xs, f, r, hg, ho, hr, hf => by
    obtain ⟨f, rfl⟩ : ∃ f', f = f' + 1 := ⟨f - 1, by simp at hf; omega⟩
    have e : manyK k (x :: xs) = ([], (5, [44])) :: (k [32] x ++ manyK k xs) := by simp [manyK]
    rw [e] at hr ⊢
    have hr : r.rest = (5, [44]) :: ((k [32] x).map (·.2) ++ ((manyK k xs).map (·.2) ++ m)) := by rw [hr]; simp
    have hc := rest_cons hr
    have hh : ((manyK k xs).map (·.2) ++ m).head? ≠ some (5, [40]) := by
      cases xs with
      | nil => exact hm2
      | cons y ys => simp [manyK]
    have q := hg x (by simp) r.step _ ho hc.2 hh
    have r1 := rest_adv hc.2
    rw [List.length_map] at r1
    have ih := many_rest hm hm2 xs f (r.step.adv (k [32] x).length) (fun y hy => hg y (by simp [hy])) ho r1 (by simp at hf; omega)
    rw [many, if_pos (show r.see 5 [44] = true from see_rest ho hr), q]
    dsimp only
    rw [ih]
    refine Prod.ext rfl ?_
    simp only [adv, step, List.length_cons, List.length_append]
    congr 1; omega
theorem manyK_len {α : Type} (k : Bs → α → List (Bs × KT)) : ∀ xs : List α, xs.length ≤ (manyK k xs).length
  | [] => Nat.zero_le _
  | x :: r => by
    have := manyK_len k r
    have e : manyK k (x :: r) = ([], (5, [44])) :: (k [32] x ++ manyK k r) := by simp [manyK]
    rw [e]; simp only [List.length_cons, List.length_append]; omega
theorem rest_len {r : Rd} {K m : List KT} (h : r.rest = K ++ m) : K.length ≤ r.l.length := by
  have := congrArg List.length h
  unfold rest at this
  rw [List.length_map, List.length_drop, List.length_append] at this
  omega
theorem actR_rest {n : Int} {r : Rd} {x : Act} {b : Bs} {m : List KT} (hn : n ≤ 1000) (h : actOk n x = true) (ho : r.isOpen = true) (hr : r.rest = (actK b x).map (·.2) ++ m) (hm : m.head? ≠ some (5, [40])) : r.actR = (x, r.adv (actK b x).length) := by
  unfold actK at hr ⊢
  by_cases hk : x.k = 2
  · rw [if_pos hk] at hr ⊢
    obtain ⟨q1, q2, w1, w2⟩ := actOk_2 h hk
    have hi : inR x.w = true := by unfold inR; rw [decide_eq_true_iff]; omega
    have hr : r.rest = (1, [100, 114, 111, 112]) :: (3, Lib.itoa x.w) :: m := by rw [hr]; rfl
    have hc := rest_cons hr
    have hu := num_rest (r := r.step) hi ho hc.2
    unfold actR
    rw [if_pos (show r.see 1 [100, 114, 111, 112] = true from see_rest ho hr), hu]
    dsimp only
    have hneg : decide (x.w < 0) = false := decide_eq_false (by omega)
    rw [hneg, Bool.and_false, if_neg (by simp)]
    refine Prod.ext ?_ rfl
    obtain ⟨k, n', a, w⟩ := x
    dsimp only at hk q1 q2 ⊢
    rw [hk, q1, q2]
  · rw [if_neg hk] at hr ⊢
    obtain ⟨hk1, hnm, hw, h5, h4⟩ := actOk_1 h hk
    obtain ⟨k, n', a, w⟩ := x
    dsimp only at hk1 hnm hw h5 h4 hr ⊢
    subst hk1 hw
    unfold actR
    cases a with
    | nil =>
      have hr : r.rest = (5, [43]) :: (1, n') :: m := by rw [hr]; rfl
      have hc := rest_cons hr
      have hc2 := rest_cons hc.2
      have n1 : r.see 1 [100, 114, 111, 112] = false := see_no (x := (1, [100, 114, 111, 112])) (by rw [hr]; simp)
      have hwn := want_rest ho hr
      have hname := name_rest (r := r.step) ho hc.2 hnm
      have hs : r.step.step.see 5 [40] = false := see_no (x := (5, [40])) (by rw [hc2.2]; exact hm)
      rw [if_neg (by rw [n1]; simp)]
      dsimp only at hwn ⊢
      rw [hwn, hname]
      dsimp only
      rw [if_neg (by rw [hs]; simp)]
      rfl
    | cons e es =>
      rw [List.all_cons, Bool.and_eq_true] at h4
      have h6 : ∀ l ∈ es, exprOk l = true := fun l hl => List.all_eq_true.1 h4.2 l hl
      have hr : r.rest = (5, [43]) :: (1, n') :: (5, [40]) :: ((exprK [] e).map (·.2) ++ ((manyK exprK es).map (·.2) ++ (5, [41]) :: m)) := by rw [hr]; simp
      have hc := rest_cons hr
      have hc2 := rest_cons hc.2
      have hc3 := rest_cons hc2.2
      have n1 : r.see 1 [100, 114, 111, 112] = false := see_no (x := (1, [100, 114, 111, 112])) (by rw [hr]; simp)
      have hwn := want_rest ho hr
      have hname := name_rest (r := r.step) ho hc.2 hnm
      have hs : r.step.step.see 5 [40] = true := see_rest (r := r.step.step) (x := (5, [40])) ho hc2.2
      have q1 := expr_restK (r := r.step.step.step) h4.1 ho hc3.2
      have r1 := rest_adv hc3.2
      rw [List.length_map] at r1
      have hle := rest_len r1
      rw [List.length_map] at hle
      have hml := manyK_len exprK es
      have q2 := many_rest (g := expr) (k := exprK) (m := (5, [41]) :: m) (by simp) (by simp) es r.l.length (r.step.step.step.adv (exprK [] e).length) (fun l hl r m ho hr _ => expr_restK (h6 l hl) ho hr) ho r1 (Nat.le_trans hml hle)
      have r2 := rest_adv r1
      rw [List.length_map] at r2
      have q3 := want_rest (r := (r.step.step.step.adv (exprK [] e).length).adv (manyK exprK es).length) ho r2
      rw [if_neg (by rw [n1]; simp)]
      dsimp only at hwn q3 ⊢
      rw [hwn, hname]
      dsimp only
      rw [if_pos hs, q1]
      dsimp only
      rw [q2]
      dsimp only
      rw [q3, List.take_of_length_le (by omega)]
      refine Prod.ext rfl ?_
      simp only [adv, step, List.length_cons, List.length_append, List.length_nil]
      congr 1; omega
end Rd
end Go.PV
namespace Go.PV
open Go
/-! a rule's text is read as it -/
noncomputable def itmK {α : Type} (k : Bs → α → List (Bs × KT)) : List α → List (Bs × KT)
  | [] => []
  | x :: xs => k [32] x ++ manyK k xs
theorem itmK_T {α : Type} {k : Bs → α → List (Bs × KT)} {t : α → Bs} {xs : List α} (hx : xs ≠ []) (h : ∀ x ∈ xs, weaveK (k [32] x) = 32 :: t x) : weaveK (itmK k xs) = 32 :: Lib.join (xs.map t) [44, 32] := by
  obtain ⟨x, r, rfl⟩ := List.exists_cons_of_ne_nil hx
  rw [itmK, weaveK_app, h x (by simp), manyK_T (t := t) (fun y hy => h y (by simp [hy])), List.map_cons, Lib.join_cons]; rfl
theorem wov_items {α : Type} {k : Bs → α → List (Bs × KT)} {t : α → Bs} {tail : Bs} (ht : stopH tail = true) {xs : List α} (h : ∀ x ∈ xs, weaveK (k [32] x) = 32 :: t x) (hw : ∀ x ∈ xs, ∀ w, stopH w = true → WovK w (k [32] x)) : WovK tail (itmK k xs) := by
  cases xs with
  | nil => trivial
  | cons x r =>
    obtain ⟨i1, i2⟩ := wov_many (k := k) (t := t) ht (xs := r) (fun y hy => h y (by simp [hy])) (fun y hy => hw y (by simp [hy]))
    exact WovK.app (hw x (by simp) _ i2) i1
noncomputable def ruleK (b : Bs) (r : Rul) : List (Bs × KT) :=
  (b, (1, [114, 117, 108, 101])) :: ([32], (1, r.n)) :: ([32], (3, Lib.itoa r.p)) :: ([], (5, [58])) :: (itmK condK r.c ++ ([32], (5, [45, 62])) :: (itmK actK r.a ++ [([], (5, [46]))]))
theorem ruleK_T {r : Rul} (h : ruleOk r = true) (b : Bs) : weaveK (ruleK b r) = b ++ ruleT r := by
  obtain ⟨h1, h2, h3, h4, h5, h6, h7, h8, h9, h10⟩ := ruleOk_all h
  have hc : r.c ≠ [] := by intro e; rw [e] at h4; simp at h4
  have ha : r.a ≠ [] := by intro e; rw [e] at h7; simp at h7
  unfold ruleK ruleT
  simp only [weaveK, weaveK_app, itmK_T (t := condT) hc (fun c hc => condK_T (h9 c hc) [32]), itmK_T (t := actT) ha (fun x hx => actK_T (h10 x hx) [32])]
  simp
theorem wov_rule {r : Rul} (h : ruleOk r = true) {b tail : Bs} (hb : blk b = true) (ht : stopH tail = true) : WovK tail (ruleK b r) := by
  obtain ⟨h1, h2, h3, h4, h5, h6, h7, h8, h9, h10⟩ := ruleOk_all h
  have hh := hasN_len r.c
  have hr : inR r.p = true := by unfold inR; rw [decide_eq_true_iff]; omega
  have hc : r.c ≠ [] := by intro e; rw [e] at h4; simp at h4
  have ha : r.a ≠ [] := by intro e; rw [e] at h7; simp at h7
  have tc : ∀ c ∈ r.c, weaveK (condK [32] c) = 32 :: condT c := fun c hc => condK_T (h9 c hc) [32]
  have ta : ∀ x ∈ r.a, weaveK (actK [32] x) = 32 :: actT x := fun x hx => actK_T (h10 x hx) [32]
  have w2 : WovK tail (itmK actK r.a ++ [([], (5, [46]))]) := WovK.app (wov_items (t := actT) rfl ta (fun x hx w hw => wov_act (by omega) (h10 x hx) rfl hw)) ⟨rfl, by unfold Tk; decide +kernel, okEnd_stop ht, trivial⟩
  have e2 : weaveK (itmK actK r.a ++ [([], (5, [46]))]) ++ tail = 32 :: (Lib.join (r.a.map actT) [44, 32] ++ ([46] ++ tail)) := by
    rw [weaveK_app, itmK_T (t := actT) ha ta]; simp [weaveK]
  have w1 : WovK tail (itmK condK r.c ++ ([32], (5, [45, 62])) :: (itmK actK r.a ++ [([], (5, [46]))])) := by
    refine WovK.app (wov_items (t := condT) rfl tc (fun c hc w hw => wov_cond (h9 c hc) rfl hw)) ⟨rfl, by unfold Tk; decide +kernel, ?_, w2⟩
    rw [e2]; exact okEnd_stop rfl
  refine ⟨hb, by unfold Tk; decide +kernel, okEnd_stop rfl, rfl, tk_word (large := false) (nameS_word h1), okEnd_stop rfl, rfl, tk_num (by rw [refNum_itoa hr]; rfl), okEnd_stop rfl, rfl, by unfold Tk; decide +kernel, ?_, w1⟩
  rw [weaveK_app, itmK_T (t := condT) hc tc]; exact okEnd_stop rfl
namespace Rd
theorem items_rest {α : Type} {g : Rd → α × Rd} {k : Bs → α → List (Bs × KT)} {m : List KT} (hm : m.head? ≠ some (5, [44])) (hm2 : m.head? ≠ some (5, [40])) {x : α} {xs : List α} {f : Nat} {r : Rd} (hg : ∀ y ∈ x :: xs, ∀ (r : Rd) (m : List KT), r.isOpen = true → r.rest = (k [32] y).map (·.2) ++ m → m.head? ≠ some (5, [40]) → g r = (y, r.adv (k [32] y).length))
    (ho : r.isOpen = true) (hr : r.rest = (itmK k (x :: xs)).map (·.2) ++ m) (hf : r.l.length ≤ f) : g r = (x, r.adv (k [32] x).length) ∧ many g f (r.adv (k [32] x).length) = (xs, r.adv (itmK k (x :: xs)).length) ∧ (r.adv (itmK k (x :: xs)).length).rest = m := by
  have hr : r.rest = (k [32] x).map (·.2) ++ ((manyK k xs).map (·.2) ++ m) := by rw [hr, itmK]; simp
  have hh : ((manyK k xs).map (·.2) ++ m).head? ≠ some (5, [40]) := by
    cases xs with
    | nil => exact hm2
    | cons y ys => simp [manyK]
  have q := hg x (by simp) r _ ho hr hh
  have r1 := rest_adv hr
  rw [List.length_map] at r1
  have hle := rest_len r1
  rw [List.length_map] at hle
  have hml := manyK_len k xs
  have e : (r.adv (k [32] x).length).l = r.l := rfl
  rw [e] at hle
  have q2 := many_rest hm hm2 xs f (r.adv (k [32] x).length) (fun y hy => hg y (by simp [hy])) ho r1 (by omega)
  have r2 := rest_adv r1
  rw [List.length_map, adv_add] at r2
  have el : (itmK k (x :: xs)).length = (k [32] x).length + (manyK k xs).length := by rw [itmK, List.length_append]
  refine ⟨q, ?_, by rw [el]; exact r2⟩
  rw [q2, el, adv_add]
theorem rule_rest {r : Rd} {a : Rul} {b : Bs} {m : List KT} (h : ruleOk a = true) (ho : r.isOpen = true) (hr : r.rest = (ruleK b a).map (·.2) ++ m) : r.rule = (a, r.adv (ruleK b a).length) := by
  obtain ⟨h1, h2, h3, h4, h5, h6, h7, h8, h9, h10⟩ := ruleOk_all h
  have hh := hasN_len a.c
  have hp : inR a.p = true := by unfold inR; rw [decide_eq_true_iff]; omega
  obtain ⟨n, p, c, x⟩ := a
  dsimp only at h1 h2 h3 h4 h5 h7 h8 h9 h10 hp hh
  have hl : (ruleK b ⟨n, p, c, x⟩).length = 4 + (itmK condK c).length + 1 + (itmK actK x).length + 1 := by
    simp only [ruleK, List.length_cons, List.length_append, List.length_nil]; omega
  have hr : r.rest = (1, [114, 117, 108, 101]) :: (1, n) :: (3, Lib.itoa p) :: (5, [58]) :: ((itmK condK c).map (·.2) ++ (5, [45, 62]) :: ((itmK actK x).map (·.2) ++ (5, [46]) :: m)) := by rw [hr]; simp [ruleK]
  rw [hl]
  cases c with
  | nil => simp at h4
  | cons c cs =>
  cases x with
  | nil => simp at h7
  | cons x xs =>
  have c1 := rest_cons hr
  have c2 := rest_cons c1.2
  have c3 := rest_cons c2.2
  have c4 := rest_cons c3.2
  have w1 := want_rest ho hr
  have w2 := name_rest (r := r.step) ho c1.2 h1
  have w3 := num_rest (r := r.step.step) hp ho c2.2
  have w4 := want_rest (r := r.step.step.step) ho c3.2
  obtain ⟨i1, i2, i3⟩ := items_rest (g := condR) (k := condK) (m := (5, [45, 62]) :: ((itmK actK (x :: xs)).map (·.2) ++ (5, [46]) :: m)) (by simp) (by simp) (f := r.l.length) (r := r.step.step.step.step) (fun y hy r m ho hr hm => condR_rest (h9 y hy) ho hr hm) ho c4.2 (Nat.le_refl _)
  have c5 := rest_cons i3
  have w5 := want_rest (r := r.step.step.step.step.adv (itmK condK (c :: cs)).length) ho i3
  obtain ⟨j1, j2, j3⟩ := items_rest (g := actR) (k := actK) (m := (5, [46]) :: m) (by simp) (by simp) (f := r.l.length) (r := (r.step.step.step.step.adv (itmK condK (c :: cs)).length).step) (fun y hy r m ho hr hm => actR_rest (by omega) (h10 y hy) ho hr hm) ho c5.2 (Nat.le_refl _)
  have w6 := want_rest (r := ((r.step.step.step.step.adv (itmK condK (c :: cs)).length).step).adv (itmK actK (x :: xs)).length) ho j3
  dsimp only at w1 w4 w5 w6
  unfold rule
  dsimp only
  rw [w1, w2]
  dsimp only
  rw [w3]
  dsimp only
  rw [w4, i1]
  dsimp only
  rw [i2]
  dsimp only
  rw [w5, j1]
  dsimp only
  rw [j2]
  dsimp only
  rw [w6, List.take_of_length_le (by omega), List.take_of_length_le (by omega)]
  refine Prod.ext rfl ?_
  simp only [adv, step]
  congr 1; omega
end Rd
theorem readR_back {l : List Tok} {i : Nat} {a : Rul} {b : Bs} {m : List KT} (h : ruleOk a = true) (hr : (l.drop i).map kt = (ruleK b a).map (·.2) ++ m) : readR l i = (a, i + (ruleK b a).length, 0) := by
  have e := Rd.rule_rest (r := rd0 l i) h rfl hr
  unfold readR
  rw [e]
  dsimp only
  rw [if_pos (show ((rd0 l i).adv (ruleK b a).length).endE = 0 from rfl), if_pos h]
  rfl
theorem lex_rule {a : Rul} (h : ruleOk a = true) {q : List (Bs × KT)} (hq : WovK [] q) (hs : stopH (weaveK q) = true) :
    errR (ruleT a ++ weaveK q) = 0 ∧ (toksR (ruleT a ++ weaveK q)).map kt = (ruleK [] a).map (·.2) ++ q.map (·.2) := by
  have hw := WovK.app (tail := []) (a := ruleK [] a) (b := q) (by rw [List.append_nil]; exact wov_rule h rfl hs) hq
  obtain ⟨h1, h2, _⟩ := wovK_R hw rfl
  rw [List.append_nil, weaveK_app, ruleK_T h, List.nil_append] at h1 h2
  exact ⟨h2, by rw [h1, posL_kt, List.map_append]⟩
theorem parse_rule {a : Rul} (h : ruleOk a = true) : parseR (ruleT a) = (a, 0) := by
  have h1 := lex_rule h (q := []) trivial rfl
  have e : ruleT a ++ weaveK [] = ruleT a := List.append_nil _
  rw [e] at h1
  have h2 := readR_back (l := toksR (ruleT a)) (i := 0) (m := []) h (by rw [List.drop_zero]; exact h1.2)
  have h3 : (toksR (ruleT a)).length = (ruleK [] a).length := by have := congrArg List.length h1.2; simpa using this
  unfold parseR
  rw [if_pos h1.1, h2]
  dsimp only
  rw [if_pos ⟨rfl, by omega⟩]
theorem ruleT_inj {a b : Rul} (ha : ruleOk a = true) (hb : ruleOk b = true) : decide (ruleT a = ruleT b) = decide (a = b) := by
  rw [decide_eq_decide]
  refine ⟨fun h => ?_, fun h => by rw [h]⟩
  have h1 := parse_rule ha
  rw [h, parse_rule hb] at h1
  exact (congrArg Prod.fst h1).symm
end Go.PV
namespace Go.PV
open Go
/-! what is read as a rule is right -/
namespace Rd
theorem want_op {r : Rd} {k : Int} {t : Bs} (h : (r.want k t).isOpen = true) : (r.want k t).i = r.i + 1 ∧ r.i < r.l.length := by
  unfold want at *
  split
  · rename_i hs; exact ⟨rfl, cur_lt (see_open hs).2⟩
  · rename_i hs
    rw [if_neg hs] at h
    split at h
    · simp [isOpen, fail] at h
    · rename_i ho; exact absurd h ho
theorem rule_l {r : Rd} (h : r.rule.2.isOpen = true) : r.i < r.rule.2.i ∧ r.rule.2.i ≤ r.l.length := by
  have e0 := want_l r 1 [114, 117, 108, 101]
  have e1 := name_l (r.want 1 [114, 117, 108, 101])
  unfold rule at *
  dsimp only at h ⊢
  generalize (r.want 1 [114, 117, 108, 101]).name = v1 at *
  have e2 := num_l v1.2
  generalize v1.2.num = v2 at *
  have e3 := want_l v2.2 5 [58]
  generalize v2.2.want 5 [58] = v3 at *
  have e4 := condR_l v3
  generalize v3.condR = v4 at *
  have e5 := many_l condR_l r.l.length v4.2
  generalize many condR r.l.length v4.2 = v5 at *
  have e6 := want_l v5.2 5 [45, 62]
  generalize v5.2.want 5 [45, 62] = v6 at *
  have e7 := actR_l v6
  generalize v6.actR = v7 at *
  have e8 := many_l actR_l r.l.length v7.2
  generalize many actR r.l.length v7.2 = v8 at *
  have e9 := want_op h
  have hl : v8.2.l = r.l := by rw [e8.1, e7.1, e6.1, e5.1, e4.1, e3.1, e2.1, e1.1, e0.1]
  rw [hl] at e9
  omega
end Rd
theorem readR_ok {l : List Tok} {i : Nat} (h : (readR l i).2.2 = 0) : ruleOk (readR l i).1 = true ∧ i < (readR l i).2.1 ∧ (readR l i).2.1 ≤ l.length := by
  have hr := @Rd.rule_l (rd0 l i)
  unfold readR at *
  dsimp only at h ⊢
  generalize (rd0 l i).rule = x at *
  by_cases he : x.2.endE = 0
  · rw [if_pos he] at h ⊢
    by_cases hk : ruleOk x.1 = true
    · rw [if_pos hk] at h ⊢
      have hb : x.2.bad = false ∧ x.2.over = false ∧ x.2.wrong = false := by
        unfold Rd.endE at he
        cases h1 : x.2.bad <;> cases h2 : x.2.over <;> cases h3 : x.2.wrong <;> simp [h1, h2, h3] at he ⊢
      have hI : x.2.endI i = x.2.i := by unfold Rd.endI; rw [hb.1, hb.2.1, hb.2.2]; rfl
      have ho : x.2.isOpen = true := by unfold Rd.isOpen; rw [hb.1, hb.2.1]; rfl
      obtain ⟨q1, q2⟩ := hr ho
      exact ⟨hk, by show i < x.2.endI i; rw [hI]; exact q1, by show x.2.endI i ≤ l.length; rw [hI]; exact q2⟩
    · rw [if_neg hk] at h; simp at h
  · rw [if_neg he] at h; simp at h
theorem ruleE_cases (r : Rul) : (ruleE r = 0 ∧ ruleOk r = true ∧ (ruleT r).length ≤ 20000 ∧ ruleX r = ruleT r) ∨ (ruleE r ≠ 0 ∧ ruleX r = [] ∧ (ruleOk r = true → ruleE r = 2 ∧ 20000 < (ruleT r).length) ∧ (ruleOk r = false → ruleE r = 1)) := by
  unfold ruleX ruleE
  cases h : ruleOk r with
  | false => right; exact ⟨by simp, by simp, by simp, by simp⟩
  | true =>
    by_cases hl : 20000 < (ruleT r).length
    · right; simp [hl]
    · left; exact ⟨by simp [hl], rfl, by omega, by simp [hl]⟩
end Go.PV
namespace Go.PV
open Go Go.Proofs
set_option maxRecDepth 100000
theorem atmH_B {a : Atm} (h : atmH a = false) : atmB a := by
  unfold atmH trmH at h
  simp at h
  obtain ⟨⟨h1, h2⟩, h3⟩ := h
  exact ⟨by omega, by omega, fun t ht => by have := h3 t ht; exact ⟨by omega, by omega⟩⟩
theorem opsH_B {l : List Stp} (h : opsH l = false) : opsB l := by
  unfold opsH stpH at h
  simp at h
  obtain ⟨h1, h3⟩ := h
  exact ⟨by omega, fun t ht => by have := h3 t ht; exact ⟨by omega, by omega⟩⟩
theorem toksH_B {l : List Tok} (h : toksH l = false) : tokB l := by
  unfold toksH tokH at h
  simp at h
  obtain ⟨h1, h3⟩ := h
  exact ⟨by omega, fun t ht => by have := h3 t ht; omega⟩
theorem tokB_len {l : List Tok} (h : tokB l) : l.length ≤ 1000000 := h.1
end Go.PV
namespace Go.PV
open Go Go.Proofs
set_option maxRecDepth 100000
theorem rulesBack_good (a b : Rul) (l : List Tok) (i : Int) {p1 p2 : Prop} (_ : p1) (_ : p2) (_ : l.length ≤ maxLen) {p : Tok → Prop} (_ : ∀ v ∈ l, p v) (_ : (Lit.int .i64 i).wf = true) : Good Tryz.prog 12 [.agg a.v, .agg b.v, .sl 4 (toksV l), .int .i64 i] [] [.bool true] [] := by
  refine good_of hP Tryz.func12 (by kernel_rfl) (lv := [0, 1, 2, 3, 4, 5, 8, 9, 10, 11, 12, 13, 14, 15, 16, 17, 18, 19, 20, 21, 31, 40, 77, 93]) (js := [40]) ⟨rfl, rfl, rfl, rfl, rfl, rfl, _, rfl, ?_⟩
  conv => whnf
  refine call0 (heavyR_good a) ?_
  cases ha : rulH a with
  | true =>
    conv => whnf
    exact fin0 rfl trivial
  | false =>
  have hab := rulH_B ha
  conv => whnf
  refine call0 (heavyR_good b) ?_
  cases hb : rulH b with
  | true =>
    conv => whnf
    exact fin0 rfl trivial
  | false =>
  have hbb := rulH_B hb
  conv => whnf
  refine call0 (heavyT_good l) ?_
  cases ht : toksH l with
  | true =>
    conv => whnf
    exact fin0 rfl trivial
  | false =>
  have htb := toksH_B ht
  conv => whnf
  refine seq_of hP [0, 1, 2, 3, 4, 5, 8, 9, 10, 11, 12, 13, 14, 15, 16, 17, 18, 19, 20, 21, 31, 40, 77, 93] [40] [4, 5, 8] [68, 69] [] (fun st => st = ⟨[(4, .ptr 68 0 0), (5, .ptr 69 0 0), (8, .bool false)], [(68, .box 0 a.v), (69, .box 0 b.v)]⟩) ?_ ?_
  · by_cases hi : 0 ≤ i ∧ i ≤ l.length
    · obtain ⟨n, rfl⟩ : ∃ n : Nat, i = n := ⟨i.toNat, by omega⟩
      conv => whnf
      refine call0 (readR_good l n htb (by omega)) ?_
      have hs : rulB (readR l n).1 ∨ (readR l n).2.2 ≠ 0 := by
        have := Rd.rule_s (rd0 l n)
        unfold readR
        dsimp only
        split
        · split
          · exact .inl this
          · exact .inr (by simp)
        · exact .inr (by simp)
      have hok := @readR_ok l n
      generalize readR l n = z at *
      conv => whnf
      refine branch_of (fun h => ?_) (fun h => ?_)
      · have h := of_decide_eq_true h
        obtain ⟨k1, k2, k3⟩ := hok h
        have hzb : rulB z.1 := by rcases hs with hs | hs; exact hs; exact absurd h hs
        conv => whnf
        refine call0 (rtext_good z.1 hzb) ?_
        rcases ruleE_cases z.1 with ⟨c1, c2, c3, c4⟩ | ⟨c1, c2, c3, c4⟩
        · rw [c1, c4]
          conv => whnf
          refine call0 (parseR_good (ruleT z.1) c3) ?_
          rw [parse_rule c2]
          conv => whnf
          refine call0 (keepRule_good z.1 z.1 hzb) ?_
          rw [decide_eq_true rfl]
          conv => whnf
          refine branch_of (fun q => ?_) (fun q => ?_)
          · have q := of_decide_eq_true q; omega
          conv => whnf
          refine branch_of (fun q => ?_) (fun q => ?_)
          · have q := of_decide_eq_true q
            rw [List.length_map] at q; omega
          conv => whnf
        · rw [(c3 k1).1, c2]
          conv => whnf
          refine call0 (parseR_good [] (by decide)) ?_
          generalize parseR [] = y
          conv => whnf
          refine branch_of (fun q => ?_) (fun q => ?_)
          · have q := of_decide_eq_true q; omega
          conv => whnf
          refine branch_of (fun q => ?_) (fun q => ?_)
          · have q := of_decide_eq_true q
            rw [List.length_map] at q; omega
          conv => whnf
      · conv => whnf
    · conv => whnf
      refine call0 (readR_bad l i htb.1 hi) ?_
      conv => whnf
  rintro st rfl
  conv => whnf
  refine call0 (rtext_good a hab) ?_
  conv => whnf
  refine call0 (rtext_good b hbb) ?_
  rcases ruleE_cases a with ⟨c1, c2, c3, c4⟩ | ⟨c1, c2, c3, c4⟩
  · rcases ruleE_cases b with ⟨d1, d2, d3, d4⟩ | ⟨d1, d2, d3, d4⟩
    · rw [c1, c4, d1, d4]
      conv => whnf
      refine call0 (parseR_good (ruleT a) c3) ?_
      rw [parse_rule c2]
      conv => whnf
      refine call0 (keepRule_good a a hab) ?_
      rw [decide_eq_true rfl]
      conv => whnf
      refine call0 (keepRule_good a b hab) ?_
      have e := ruleT_inj c2 d2
      conv => whnf
      have e2 : (decide (a = b) == decide (a = b)) = true := by simp
      rw [e, e2]
      conv => whnf
      refine call0 (wakes11_good) ?_
      conv => whnf
      exact fin0 rfl trivial
    · rw [c1, c4, d2]
      conv => whnf
      refine branch_of (fun q => ?_) (fun q => ?_)
      · conv => whnf
        refine branch_of (fun q2 => ?_) (fun q2 => ?_)
        · exact absurd (of_decide_eq_true q2) d1
        · conv => whnf
          refine call0 (wakes11_good) ?_
          conv => whnf
          exact fin0 rfl trivial
      · rw [Bool.not_eq_false'] at q
        exact absurd (of_decide_eq_true q) d1
  · rw [c2]
    conv => whnf
    refine branch_of (fun q => ?_) (fun q => ?_)
    · conv => whnf
      refine branch_of (fun q2 => ?_) (fun q2 => ?_)
      · exact absurd (of_decide_eq_true q2) c1
      conv => whnf
      rcases ruleE_cases b with ⟨d1, d2, d3, d4⟩ | ⟨d1, d2, d3, d4⟩
      · rw [d1]
        conv => whnf
        refine call0 (wakes11_good) ?_
        conv => whnf
        exact fin0 rfl trivial
      · rw [d2]
        refine branch_of (fun q3 => ?_) (fun q3 => ?_)
        · exact absurd (of_decide_eq_true q3) d1
        conv => whnf
        refine call0 (wakes11_good) ?_
        conv => whnf
        exact fin0 rfl trivial
    · rw [Bool.not_eq_false'] at q
      exact absurd (of_decide_eq_true q) c1
end Go.PV
