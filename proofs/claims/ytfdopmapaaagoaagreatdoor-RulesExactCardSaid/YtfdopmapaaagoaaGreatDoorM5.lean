/- Part of the proof. -/
import Derived.Test.YtfdopmapaaagoaaGreatDoorM4
import Derived.Lib.Join
set_option linter.unusedVariables false
set_option linter.unusedSimpArgs false
namespace Go.PV
open Go
/-! the page's reader -/
structure Rf where
  l : List Tok
  i : Nat
  ok : Bool
abbrev Rf.ob (r : Rf) : Ob := .box 0 [.sl 4 (toksV r.l), .int .i64 r.i, .bool r.ok]
def refTerm (t : Tok) : Trm :=
  if t.k = 2 then ⟨t.t, zeroV⟩ else if t.k = 3 then ⟨[], ⟨1, (refNumS t.t).getD 0, []⟩⟩ else if t.k = 4 then ⟨[], ⟨3, 0, (refQuotedS t.t).1⟩⟩ else ⟨[], ⟨2, 0, t.t⟩⟩
def tokOk (t : Tok) : Bool := decide (1 ≤ t.k ∧ t.k ≤ 5) && refRight t.k t.t
namespace Rf
def tok (r : Rf) : Option Tok := match r.l[r.i]? with
  | some t => if tokOk t then some t else none
  | none => none
def is (r : Rf) (k : Int) (s : Bs) : Bool := match r.tok with
  | some t => decide (t.k = k) && decide (t.t = s)
  | none => false
def step (r : Rf) : Rf := { r with i := r.i + 1 }
def fail (r : Rf) : Rf := { r with ok := false }
def take (r : Rf) (k : Int) (s : Bs) : Rf := if r.ok && r.is k s then r.step else r.fail
def name (r : Rf) : Bs × Rf := match r.tok with
  | some t => if r.ok = true ∧ t.k = 1 ∧ nameS t.t = true then (t.t, r.step) else ([], r.fail)
  | none => ([], r.fail)
def num (r : Rf) : Int × Rf := match r.tok with
  | some t => if r.ok = true ∧ t.k = 3 then ((refNumS t.t).getD 0, r.step) else (0, r.fail)
  | none => (0, r.fail)
def term (r : Rf) : Trm × Rf := match r.tok with
  | some t => if r.ok = true ∧ t.k ≠ 5 then (refTerm t, r.step) else (zeroT, r.fail)
  | none => (zeroT, r.fail)
def args : Nat → Rf → List Trm × Rf
  | 0, r => ([], r)
  | f + 1, r => if r.ok && r.is 5 [44] then (r.step.term.1 :: (args f r.step.term.2).1, (args f r.step.term.2).2) else ([], r)
def atom (r : Rf) : Atm × Rf :=
  if r.name.2.ok && r.name.2.is 5 [40] then
    (⟨r.name.1, r.name.2.step.term.1 :: (args r.name.2.l.length r.name.2.step.term.2).1⟩, (args r.name.2.l.length r.name.2.step.term.2).2.take 5 [41])
  else (⟨r.name.1, []⟩, r.name.2)
end Rf
/-- the two readers stand alike -/
structure Sim (r : Rd) (q : Rf) : Prop where
  l : r.l = q.l
  i : r.i = q.i
  over : r.over = false
  bad : r.bad = !q.ok
namespace Sim
theorem isOpen {r : Rd} {q : Rf} (h : Sim r q) : r.isOpen = q.ok := by
  unfold Rd.isOpen; rw [h.bad, h.over]; cases q.ok <;> rfl
theorem step {r : Rd} {q : Rf} (h : Sim r q) : Sim r.step q.step := ⟨h.l, by show r.i + 1 = q.i + 1; rw [h.i], h.over, h.bad⟩
theorem fail {r : Rd} {q : Rf} (h : Sim r q) : Sim r.fail q.fail := ⟨h.l, h.i, h.over, rfl⟩
theorem cur {r : Rd} {q : Rf} (h : Sim r q) : r.cur = (q.l[q.i]?).map kt := by unfold Rd.cur; rw [h.l, h.i]
theorem see {r : Rd} {q : Rf} (h : Sim r q) {k : Int} {s : Bs} (hk : tokOk ⟨k, s, (0, 0)⟩ = true) : r.see k s = (q.ok && q.is k s) := by
  unfold Rd.see Rf.is Rf.tok
  rw [h.isOpen, h.cur]
  congr 1
  cases hg : q.l[q.i]? with
  | none => rfl
  | some t =>
    dsimp only [Option.map_some]
    by_cases e : t.k = k ∧ t.t = s
    · obtain ⟨e1, e2⟩ := e
      have ht : tokOk t = true := by unfold tokOk at hk ⊢; rw [e1, e2]; exact hk
      rw [ht, if_pos rfl]; simp [kt, e1, e2]
    · have e1 : decide (some (kt t) = some (k, s)) = false := by
        rw [decide_eq_false_iff_not]; intro h; simp only [Option.some.injEq, Prod.mk.injEq, kt] at h; exact e h
      rw [e1]
      split
      · rename_i u hu
        split at hu
        · cases hu
          symm; rw [Bool.and_eq_false_iff, decide_eq_false_iff_not, decide_eq_false_iff_not]
          by_cases h1 : t.k = k
          · exact .inr fun h2 => e ⟨h1, h2⟩
          · exact .inl h1
        · cases hu
      · rfl
theorem want {r : Rd} {q : Rf} (h : Sim r q) {k : Int} {s : Bs} (hk : tokOk ⟨k, s, (0, 0)⟩ = true) : Sim (r.want k s) (q.take k s) := by
  unfold Rd.want Rf.take
  rw [h.see hk]
  cases hq : q.ok && q.is k s with
  | true => exact h.step
  | false =>
    rw [if_neg (by simp)]
    cases ho : q.ok with
    | true => rw [if_pos (by rw [h.isOpen, ho])]; exact h.fail
    | false => rw [if_neg (by rw [h.isOpen, ho]; simp)]; exact ⟨h.l, h.i, h.over, by rw [h.bad, ho]; rfl⟩
theorem shut {r : Rd} {q : Rf} (h : Sim r q) (ho : q.ok = false) : Sim r q.fail := ⟨h.l, h.i, h.over, by rw [h.bad, ho]; rfl⟩
theorem name {r : Rd} {q : Rf} (h : Sim r q) : r.name.1 = q.name.1 ∧ Sim r.name.2 q.name.2 := by
  unfold Rd.name Rf.name Rf.tok
  rw [h.isOpen, h.cur]
  cases ho : q.ok with
  | false =>
    have hs := h.shut ho
    rw [if_neg (by simp)]
    split
    · rw [if_neg (by simp)]; exact ⟨rfl, hs⟩
    · exact ⟨rfl, hs⟩
  | true =>
    rw [if_pos rfl]
    cases hg : q.l[q.i]? with
    | none => exact ⟨rfl, h.fail⟩
    | some t =>
      dsimp only [Option.map_some]
      by_cases e : t.k = 1 ∧ nameS t.t = true
      · have ht : tokOk t = true := by
          unfold tokOk refRight; rw [e.1, if_pos rfl, nameS_word e.2]; rfl
        rw [if_pos e, ht, if_pos rfl]
        dsimp only
        rw [if_pos ⟨rfl, e⟩]
        exact ⟨rfl, h.step⟩
      · rw [if_neg e]
        split
        · rename_i u hu
          split at hu
          · cases hu
            rw [if_neg (fun x => e x.2)]
            exact ⟨rfl, h.fail⟩
          · cases hu
        · exact ⟨rfl, h.fail⟩
theorem tok1 (s : Bs) (p : Int × Int) : tokOk ⟨1, s, p⟩ = refWordS false s := by simp [tokOk, refRight]
theorem tok2 (s : Bs) (p : Int × Int) : tokOk ⟨2, s, p⟩ = varS s := by simp [tokOk, refRight, varS]
theorem tok3 (s : Bs) (p : Int × Int) : tokOk ⟨3, s, p⟩ = (refNumS s).isSome := by simp [tokOk, refRight]
theorem tok4 (s : Bs) (p : Int × Int) : tokOk ⟨4, s, p⟩ = (refQuotedS s).2 := by simp [tokOk, refRight]
theorem value (t : Tok) : valueS (kt t) = if tokOk t = true ∧ t.k ≠ 5 then some (refTerm t) else none := by
  obtain ⟨k, s, p⟩ := t
  show valueS (k, s) = _
  dsimp only
  by_cases h2 : k = 2
  · subst h2
    have e1 : valueS (2, s) = if varS s = true then some ⟨s, zeroV⟩ else none := rfl
    have e2 : refTerm ⟨2, s, p⟩ = ⟨s, zeroV⟩ := rfl
    rw [e1, e2, tok2]
    cases varS s
    · rw [if_neg (by simp), if_neg (by simp)]
    · rw [if_pos rfl, if_pos ⟨rfl, by omega⟩]
  by_cases h3 : k = 3
  · subst h3
    have e1 : valueS (3, s) = (numberS s).map fun v => ⟨[], v⟩ := rfl
    have e2 : refTerm ⟨3, s, p⟩ = ⟨[], ⟨1, (refNumS s).getD 0, []⟩⟩ := rfl
    rw [e1, e2, tok3, number_ref]
    cases refNumS s with
    | none => rw [if_neg (by simp)]; rfl
    | some n => rw [if_pos ⟨rfl, by omega⟩]; rfl
  have e1 : valueS (k, s) = match parseS s with
    | some v => if (k = 1 ∧ v.k = 2) ∨ (k = 4 ∧ v.k = 3) then some ⟨[], v⟩ else none
    | none => none := by unfold valueS; rw [if_neg h2, if_neg h3]; rfl
  rw [e1]
  by_cases h1 : k = 1
  · subst h1
    have e2 : refTerm ⟨1, s, p⟩ = ⟨[], ⟨2, 0, s⟩⟩ := rfl
    rw [e2, tok1]
    cases hw : refWordS false s with
    | true =>
      rw [← symbol_word] at hw
      rw [parse_sym hw, if_pos ⟨rfl, by omega⟩]
      dsimp only
      rw [if_pos (.inl ⟨rfl, rfl⟩)]
    | false =>
      rw [if_neg (by simp)]
      cases hp : parseS s with
      | none => rfl
      | some v =>
        dsimp only
        rw [if_neg]
        rintro (⟨_, h⟩ | ⟨h, _⟩)
        · obtain ⟨c1, c2⟩ := parse_some hp
          rcases check_cases c1 with ⟨c, _⟩ | ⟨_, _, c3, c4⟩ | ⟨c, _⟩
          · omega
          · rw [c4] at c2; rw [c2, symbol_word, hw] at c3; cases c3
          · omega
        · omega
  by_cases h4 : k = 4
  · subst h4
    have e2 : refTerm ⟨4, s, p⟩ = ⟨[], ⟨3, 0, (refQuotedS s).1⟩⟩ := rfl
    rw [e2, tok4]
    have hq := quoted_ref (t := s)
    cases hr : (refQuotedS s).2 with
    | true =>
      obtain ⟨v, hv, hk⟩ := hq.1.1 hr
      rw [hv, if_pos ⟨rfl, by omega⟩]
      dsimp only
      rw [if_pos (.inr ⟨rfl, hk⟩), hq.2 v hv hk]
    | false =>
      rw [if_neg (by simp)]
      cases hp : parseS s with
      | none => rfl
      | some v =>
        dsimp only
        rw [if_neg]
        rintro (⟨h, _⟩ | ⟨_, h⟩)
        · omega
        · rw [hq.1.2 ⟨v, hp, h⟩] at hr; cases hr
  have h5 : ¬ (tokOk ⟨k, s, p⟩ = true ∧ k ≠ 5) := by
    rintro ⟨h, h5⟩
    unfold tokOk at h
    rw [Bool.and_eq_true, decide_eq_true_eq] at h
    have := h.1
    dsimp only at this
    omega
  rw [if_neg h5]
  cases parseS s with
  | none => rfl
  | some v => dsimp only; rw [if_neg (by omega)]
theorem term {r : Rd} {q : Rf} (h : Sim r q) : r.term.1 = q.term.1 ∧ Sim r.term.2 q.term.2 := by
  unfold Rd.term Rf.term Rf.tok
  rw [h.isOpen, h.cur]
  cases ho : q.ok with
  | false =>
    have hs := h.shut ho
    rw [if_neg (by simp)]
    split
    · rw [if_neg (by simp)]; exact ⟨rfl, hs⟩
    · exact ⟨rfl, hs⟩
  | true =>
    rw [if_pos rfl]
    cases hg : q.l[q.i]? with
    | none => exact ⟨rfl, h.fail⟩
    | some t =>
      dsimp only [Option.map_some, Option.bind_some]
      rw [value]
      by_cases e : tokOk t = true ∧ t.k ≠ 5
      · rw [if_pos e, e.1, if_pos rfl]
        dsimp only
        rw [if_pos ⟨rfl, e.2⟩]
        exact ⟨rfl, h.step⟩
      · rw [if_neg e]
        dsimp only
        split
        · rename_i u hu
          split at hu
          · rename_i h1
            cases hu
            rw [if_neg (fun x => e ⟨h1, x.2⟩)]
            exact ⟨rfl, h.fail⟩
          · cases hu
        · exact ⟨rfl, h.fail⟩
theorem num {r : Rd} {q : Rf} (h : Sim r q) : r.num.1 = q.num.1 ∧ Sim r.num.2 q.num.2 := by
  unfold Rd.num Rf.num Rf.tok
  rw [h.isOpen, h.cur]
  cases ho : q.ok with
  | false =>
    have hs := h.shut ho
    rw [if_neg (by simp)]
    split
    · rw [if_neg (by simp)]; exact ⟨rfl, hs⟩
    · exact ⟨rfl, hs⟩
  | true =>
    rw [if_pos rfl]
    cases hg : q.l[q.i]? with
    | none => exact ⟨rfl, h.fail⟩
    | some t =>
      dsimp only [Option.map_some]
      by_cases h3 : t.k = 3
      · rw [if_pos h3, number_ref]
        have e : tokOk t = (refNumS t.t).isSome := by unfold tokOk refRight; rw [h3]; simp
        rw [e]
        cases hn : refNumS t.t with
        | none => exact ⟨rfl, h.fail⟩
        | some n =>
          dsimp only [Option.map_some, Option.isSome_some]
          rw [if_pos rfl]
          dsimp only
          rw [if_pos ⟨rfl, h3⟩, hn]
          exact ⟨rfl, h.step⟩
      · rw [if_neg h3]
        dsimp only
        split
        · rename_i u hu
          split at hu
          · cases hu
            rw [if_neg (fun x => h3 x.2)]
            exact ⟨rfl, h.fail⟩
          · cases hu
        · exact ⟨rfl, h.fail⟩
theorem args : ∀ (f : Nat) {r : Rd} {q : Rf}, Sim r q → (Rd.args f r).1 = (Rf.args f q).1 ∧ Sim (Rd.args f r).2 (Rf.args f q).2
  | 0, r, q, h => ⟨rfl, h⟩
  | f + 1, r, q, h => by
    unfold Rd.args Rf.args
    rw [h.see (by decide +kernel)]
    cases q.ok && q.is 5 [44] with
    | false => exact ⟨rfl, h⟩
    | true =>
      rw [if_pos rfl, if_pos rfl]
      have h1 := h.step.term
      have h2 := args f h1.2
      exact ⟨by dsimp only; rw [h1.1, h2.1], h2.2⟩
theorem wrong {r : Rd} {q : Rf} (h : Sim r q) (b : Bool) : Sim { r with wrong := b } q := ⟨h.l, h.i, h.over, h.bad⟩
theorem args_w : ∀ (f : Nat) (r : Rd), (Rd.args f r).2.wrong = r.wrong
  | 0, r => rfl
  | f + 1, r => by
    unfold Rd.args
    split
    · dsimp only
      rw [args_w f]
      show r.step.term.2.wrong = r.wrong
      unfold Rd.term
      split
      · split <;> rfl
      · rfl
    · rfl
/-- an atom: the same; too many arguments are cut off -/
theorem atom {r : Rd} {q : Rf} (h : Sim r q) : r.atom.1 = ⟨q.atom.1.n, q.atom.1.a.take 5⟩ ∧ Sim r.atom.2 q.atom.2 ∧ (r.wrong = false → r.atom.2.wrong = decide (5 < q.atom.1.a.length)) := by
  have h1 := h.name
  have hw : r.name.2.wrong = r.wrong := by
    unfold Rd.name
    split
    · split
      · split <;> rfl
      · rfl
    · rfl
  have hs := h1.2.see (k := 5) (s := [40]) (by decide +kernel)
  cases hq : q.name.2.ok && q.name.2.is 5 [40] with
  | false =>
    rw [hq] at hs
    rw [Rd.atom_no hs]
    unfold Rf.atom; rw [hq, if_neg (by simp)]
    exact ⟨by rw [h1.1]; rfl, h1.2, fun h0 => by dsimp only; rw [hw, h0]; rfl⟩
  | true =>
    rw [hq] at hs
    rw [Rd.atom_yes hs]
    unfold Rf.atom; rw [hq, if_pos rfl]
    have h2 := h1.2.step.term
    have hl : r.name.2.l.length = q.name.2.l.length := by rw [h1.2.l]
    have h3 := args q.name.2.l.length h2.2
    have h4 := h3.2.want (k := 5) (s := [41]) (by decide +kernel)
    rw [hl]
    refine ⟨by dsimp only; rw [h1.1, h2.1, h3.1], ?_, fun h0 => ?_⟩
    · split
      · exact h4.wrong true
      · exact h4
    · have hww : ∀ (x : Rd) k s, (x.want k s).wrong = x.wrong := fun x k s => by
        unfold Rd.want; split
        · rfl
        · split <;> rfl
      have ht : r.name.2.step.term.2.wrong = r.wrong := by
        rw [← hw]
        unfold Rd.term
        split
        · split <;> rfl
        · rfl
      rw [h3.1]
      dsimp only
      rw [List.length_cons]
      split
      · rename_i h5; rw [decide_eq_true h5]
      · rename_i h5; rw [hww, args_w, ht, h0, decide_eq_false h5]
end Sim
namespace Rf
theorem name_l (r : Rf) : r.name.2.l = r.l ∧ r.i ≤ r.name.2.i := by
  unfold name
  split
  · split
    · exact ⟨rfl, Nat.le_succ _⟩
    · exact ⟨rfl, Nat.le_refl _⟩
  · exact ⟨rfl, Nat.le_refl _⟩
theorem term_l (r : Rf) : r.term.2.l = r.l ∧ r.i ≤ r.term.2.i ∧ r.term.2.i ≤ r.i + 1 := by
  unfold term
  split
  · split
    · exact ⟨rfl, Nat.le_succ _, Nat.le_refl _⟩
    · exact ⟨rfl, Nat.le_refl _, Nat.le_succ _⟩
  · exact ⟨rfl, Nat.le_refl _, Nat.le_succ _⟩
theorem num_l (r : Rf) : r.num.2.l = r.l ∧ r.i ≤ r.num.2.i := by
  unfold num
  split
  · split
    · exact ⟨rfl, Nat.le_succ _⟩
    · exact ⟨rfl, Nat.le_refl _⟩
  · exact ⟨rfl, Nat.le_refl _⟩
theorem take_l (r : Rf) (k : Int) (s : Bs) : (r.take k s).l = r.l ∧ r.i ≤ (r.take k s).i := by
  unfold take
  split
  · exact ⟨rfl, Nat.le_succ _⟩
  · exact ⟨rfl, Nat.le_refl _⟩
end Rf
/-- an atom at a place, as the page reads it -/
def refReadA (l : List Tok) (i : Nat) : Atm × Nat × Int :=
  let x := (⟨l, i, true⟩ : Rf).atom
  if x.2.ok then (if atomOk x.1 then (x.1, x.2.i, 0) else (zeroA, i, 7)) else (zeroA, x.2.i, 7)
theorem Rd.atom_le {r : Rd} (h : r.i ≤ r.l.length) : r.atom.2.i ≤ r.l.length := by
  have hname : r.name.2.i ≤ r.l.length := by
    unfold Rd.name
    split
    · split
      · rename_i x hx
        split
        · exact Rd.cur_lt hx
        · exact h
      · exact h
    · exact h
  have hl := (Rd.name_l r).1
  have hterm : ∀ q : Rd, q.i ≤ q.l.length → q.term.2.i ≤ q.l.length := fun q hq => by
    unfold Rd.term
    split
    · split
      · rename_i t ht
        rw [Option.bind_eq_some_iff] at ht
        obtain ⟨x, h1, _⟩ := ht
        exact Rd.cur_lt h1
      · exact hq
    · exact hq
  have hargs : ∀ (f : Nat) (q : Rd), q.i ≤ q.l.length → (Rd.args f q).2.i ≤ q.l.length := by
    intro f
    induction f with
    | zero => intro q hq; exact hq
    | succ f ih =>
      intro q hq
      unfold Rd.args
      split
      · rename_i hs
        have h1 := Rd.cur_lt (Rd.see_open hs).2
        have h2 := hterm q.step h1
        have h3 := (Rd.term_l q.step).1
        have := ih q.step.term.2 (by rw [h3]; exact h2)
        rw [h3] at this
        exact this
      · exact hq
  have hwant : ∀ (q : Rd) k s, q.i ≤ q.l.length → (q.want k s).i ≤ q.l.length := fun q k s hq => by
    unfold Rd.want
    split
    · rename_i hs; exact Rd.cur_lt (Rd.see_open hs).2
    · split <;> exact hq
  cases hs : r.name.2.see 5 [40] with
  | false => rw [Rd.atom_no hs]; exact hname
  | true =>
    rw [Rd.atom_yes hs]
    have h1 := Rd.cur_lt (Rd.see_open hs).2
    have h2 := hterm r.name.2.step h1
    have h3 := (Rd.term_l r.name.2.step).1
    have h4 := hargs r.name.2.l.length r.name.2.step.term.2 (by rw [h3]; exact h2)
    have h5 := (Rd.args_l r.name.2.l.length r.name.2.step.term.2).1
    have h6 := hwant (Rd.args r.name.2.l.length r.name.2.step.term.2).2 5 [41] (by rw [h5]; exact h4)
    rw [h5, h3] at h6
    have h7 : r.name.2.step.l.length = r.l.length := by show r.name.2.l.length = _; rw [hl]
    rw [h7] at h6
    dsimp only
    split <;> exact h6
theorem readA_ref {l : List Tok} {i : Nat} (hi : i ≤ l.length) : readA l i = refReadA l i := by
  have h : Sim (rd0 l i) ⟨l, i, true⟩ := ⟨rfl, rfl, rfl, rfl⟩
  obtain ⟨h1, h2, h3⟩ := h.atom
  have h3 := h3 rfl
  have hle := Rd.atom_le (r := rd0 l i) hi
  have hal : (rd0 l i).atom.2.l = l := (Rd.atom_l (rd0 l i)).1
  have hop := Rd.atom_open (r := rd0 l i)
  unfold readA refReadA
  dsimp only
  unfold Rd.endE Rd.endI
  generalize (rd0 l i).atom = x at *
  generalize (⟨l, i, true⟩ : Rf).atom = y at *
  rw [h2.bad, h2.over, h3]
  have hx : (x.2.i : Nat) = y.2.i := h2.i
  cases ho : y.2.ok with
  | false =>
    simp only [Bool.not_false, Bool.true_or, if_true]
    rw [if_neg (by omega), if_neg (by simp), hal, ← hx, Nat.min_eq_left hle]
  | true =>
    by_cases h5 : 5 < y.1.a.length
    · have : atomOk y.1 = false := by unfold atomOk; rw [decide_eq_false (by omega)]; simp
      simp only [decide_eq_true h5, Bool.not_true, Bool.false_or, if_true, Bool.false_eq_true, if_false, this]
      rw [if_neg (by omega)]
    · have hy : x.1 = y.1 := by rw [h1, List.take_of_length_le (by omega)]
      have hok : atomOk y.1 = true := by
        rw [← hy]
        refine (hop (by rw [h2.isOpen, ho])).1 (by rw [h3, decide_eq_false h5]) rfl
      simp only [decide_eq_false h5, Bool.not_true, Bool.false_or, Bool.false_eq_true, if_false, hok, if_true]
      rw [hy, hx]
end Go.PV
namespace Go.PV
open Go
/-! facts, traces -/
structure Fct where
  n : Bs
  a : List Val
abbrev valV (l : List Val) : List (List V) := l.map Val.c
abbrev Fct.c (f : Fct) : List V := [.str f.n, .sl 3 (valV f.a)]
abbrev fctV (l : List Fct) : List (List V) := l.map Fct.c
instance : DecidableEq Fct := fun a b => decidable_of_iff (a.n = b.n ∧ a.a = b.a) (by cases a; cases b; simp)
def zeroF : Fct := ⟨[], []⟩
def Fct.at (f : Fct) : Atm := ⟨f.n, f.a.map fun v => ⟨[], v⟩⟩
def Atm.gr (a : Atm) : Fct := ⟨a.n, a.a.map Trm.x⟩
def factOk (f : Fct) : Bool := nameS f.n && decide (f.a.length ≤ 5) && f.a.all checkS
theorem at_gr (f : Fct) : f.at.gr = f := by
  obtain ⟨n, a⟩ := f
  simp only [Fct.at, Atm.gr, List.map_map]
  congr 1
  exact (List.map_congr_left fun v _ => rfl).trans (List.map_id' a)
theorem at_ok (f : Fct) : atomOk f.at = factOk f := by
  unfold atomOk factOk Fct.at
  dsimp only
  rw [List.length_map, List.all_map]
  congr 2
theorem at_inj {f g : Fct} (h : f.at = g.at) : f = g := by rw [← at_gr f, h, at_gr]
def free (a : Atm) : Bool := a.a.all fun t => decide (t.v = [])
theorem gr_at {a : Atm} (h : free a = true) : a.gr.at = a := by
  obtain ⟨n, l⟩ := a
  simp only [Fct.at, Atm.gr, List.map_map]
  congr 1
  refine (List.map_congr_left (g := id) fun t ht => ?_).trans (List.map_id l)
  have := List.all_eq_true.1 h t ht
  obtain ⟨v, x⟩ := t
  have : v = [] := by simpa using this
  subst this; rfl
theorem at_free (f : Fct) : free f.at = true := by
  unfold free Fct.at; rw [List.all_eq_true]; intro t ht
  obtain ⟨v, _, rfl⟩ := List.mem_map.1 ht; rfl
def factT (f : Fct) : Bs := atomT f.at
theorem factT_len {f : Fct} (h : factOk f = true) : (factT f).length ≤ 700 := atomT_len (by rw [at_ok]; exact h)
def traceT (l : List Fct) : Bs := l.flatMap fun f => factT f ++ [46, 10]
def traceOk (l : List Fct) : Int := if 200 < l.length then 2 else if l.all factOk then 0 else 1
/-- its signs -/
def traceK : Bs → List Fct → List (Bs × KT)
  | _, [] => []
  | b, f :: r => atomK b f.at ++ ([], (5, [46])) :: traceK [10] r
theorem weaveK_atomK (b : Bs) (a : Atm) : weaveK (atomK b a) = b ++ atomT a := by
  unfold atomT atomK; simp [weaveK]
theorem weave_trace : ∀ (l : List Fct) (b : Bs), l ≠ [] → weaveK (traceK b l) ++ [10] = b ++ traceT l
  | [], b, h => absurd rfl h
  | f :: r, b, _ => by
    have e : weaveK (traceK b (f :: r)) = b ++ (factT f ++ ([46] ++ weaveK (traceK [10] r))) := by
      rw [traceK, weaveK_app, weaveK_atomK]; simp [weaveK, factT]
    rw [e]
    cases r with
    | nil => simp [traceK, weaveK, traceT]
    | cons g r =>
      have ih := weave_trace (g :: r) [10] (by simp)
      have e2 : traceT (f :: g :: r) = factT f ++ [46, 10] ++ traceT (g :: r) := by simp [traceT]
      rw [e2]
      simp only [List.append_assoc]
      rw [ih]; simp
theorem wov_trace : ∀ (l : List Fct) (b tail : Bs), l.all factOk = true → blk b = true → stopH tail = true → WovK tail (traceK b l)
  | [], b, tail, _, _, _ => trivial
  | f :: r, b, tail, h, hb, ht => by
    rw [List.all_cons, Bool.and_eq_true] at h
    rw [traceK]
    refine WovK.app (wov_atom rfl hb (by rw [at_ok]; exact h.1)) ⟨rfl, rfl, ?_, wov_trace r [10] tail h.2 rfl ht⟩
    cases r with
    | nil => exact okEnd_stop ht
    | cons g r =>
      refine okEnd_stop ?_
      have : weaveK (traceK [10] (g :: r)) ++ tail = 10 :: (atomT g.at ++ (weaveK (([], (5, [46])) :: traceK [10] r) ++ tail)) := by
        rw [traceK, weaveK_app, weaveK_atomK]; simp
      rw [this]; rfl
/-- an event, read -/
def eventS (l : List Tok) (i : Nat) : Fct × Nat × Int :=
  let x := readA l i
  if x.2.2 ≠ 0 then (zeroF, x.2.1, 7)
  else if free x.1 = false then (zeroF, i, 7)
  else match l[x.2.1]? with
    | some t => if t.k = 5 ∧ t.t = [46] then (x.1.gr, x.2.1 + 1, 0) else (zeroF, x.2.1, 7)
    | none => (zeroF, x.2.1, 7)
def placeT (l : List Tok) (i : Nat) : Int × Int := match l[i]? with
  | some t => t.p
  | none => match l.getLast? with
    | some t => (t.p.1, t.p.2 + 1)
    | none => (0, 0)
theorem eventS_ok {l : List Tok} {i : Nat} (h : (eventS l i).2.2 = 0) : factOk (eventS l i).1 = true ∧ i < (eventS l i).2.1 ∧ (eventS l i).2.1 ≤ l.length := by
  unfold eventS at *
  dsimp only at h ⊢
  by_cases h0 : (readA l i).2.2 = 0
  · obtain ⟨k1, k2, k3⟩ := readA_ok h0
    rw [if_neg (by omega)] at h ⊢
    cases hf : free (readA l i).1 with
    | false => rw [hf, if_pos rfl] at h; cases h
    | true =>
      rw [hf, if_neg (by simp)] at h
      rw [if_neg (by simp)]
      cases hg : l[(readA l i).2.1]? with
      | none => rw [hg] at h; cases h
      | some t =>
        rw [hg] at h
        dsimp only at h ⊢
        have hlt := (List.getElem?_eq_some_iff.1 hg).1
        split at h
        · rename_i ht
          rw [if_pos ht]
          refine ⟨?_, by dsimp only; omega, by dsimp only; omega⟩
          rw [← at_ok, gr_at hf]; exact k1
        · cases h
  · rw [if_pos h0] at h; cases h
theorem eventS_place {l : List Tok} {i : Nat} (h : i ≤ l.length) : i ≤ (eventS l i).2.1 ∧ (eventS l i).2.1 ≤ l.length ∧ ((eventS l i).2.2 = 0 ∨ (eventS l i).2.2 = 7) := by
  have hp := readA_place h
  unfold eventS
  dsimp only
  split
  · exact ⟨hp.1, hp.2.1, .inr rfl⟩
  · split
    · exact ⟨Nat.le_refl _, h, .inr rfl⟩
    · split
      · rename_i t hg
        have hlt := (List.getElem?_eq_some_iff.1 hg).1
        split
        · exact ⟨by dsimp only; omega, by dsimp only; omega, .inl rfl⟩
        · exact ⟨hp.1, hp.2.1, .inr rfl⟩
      · exact ⟨hp.1, hp.2.1, .inr rfl⟩
/-- the events from a place on: what is read, where the first one too many begins, where it falls -/
def traceGo (l : List Tok) : Nat → Nat → List Fct × Option Nat
  | 0, _ => ([], none)
  | f + 1, i => if i < l.length then
      let x := eventS l i
      if x.2.2 = 0 then (x.1 :: (traceGo l f x.2.1).1, (traceGo l f x.2.1).2) else ([], some x.2.1)
    else ([], none)
/-- where the n-th event begins -/
def traceAt (l : List Tok) : Nat → Nat → Nat
  | 0, i => i
  | n + 1, i => traceAt l n (eventS l i).2.1
def parseT (s : Bs) : List Fct × (Int × Int) × Int :=
  if errR s = 0 then
    let l := toksR s
    let x := traceGo l l.length 0
    match x.2 with
    | some n => ([], placeT l n, 7)
    | none => if 200 < x.1.length then ([], placeT l (traceAt l 200 0), 2) else (x.1, (0, 0), 0)
  else ([], posR s, errR s)
end Go.PV
namespace Go.PV
open Go Go.Proofs
set_option maxRecDepth 100000
theorem in9_good (a b c : Int) : Good Tryz.prog 77 [.int .i64 a, .int .i64 b, .int .i64 c] [] [.bool (decide (b ≤ a ∧ a ≤ c))] [] := by
  refine good_of hP Tryz.func77 (by kernel_rfl) (lv := [0, 1, 2, 6]) (js := []) ⟨rfl, rfl, rfl, rfl, rfl, rfl, _, rfl, ?_⟩
  conv => whnf
  refine branch_of (fun h => ?_) (fun h => ?_)
  · have h := of_decide_eq_true h
    conv => whnf
    exact fin0 (by rw [show decide (b ≤ a ∧ a ≤ c) = decide (a ≤ c) from by rw [decide_eq_decide]; omega]) trivial
  · have h := of_decide_eq_false h
    conv => whnf
    exact fin0 (by rw [decide_eq_false (by omega)]) trivial
theorem words_good : Good Tryz.prog 147 [] [] [.sl 1 (strV wordsL)] [] := by
  refine good_of hP Tryz.func147 (by kernel_rfl) (lv := [0]) (js := []) ⟨rfl, rfl, rfl, rfl, rfl, rfl, _, rfl, ?_⟩
  conv => whnf
  exact fin0 rfl trivial
theorem refName_good (s : Bs) (hs : s.length ≤ 1000000) : Good Tryz.prog 85 [.str s] [] [.bool (nameS s)] [] := by
  refine good_of hP Tryz.func85 (by kernel_rfl) (lv := [0, 2, 3, 4, 7, 12, 20]) (js := []) ⟨rfl, rfl, rfl, rfl, rfl, rfl, _, rfl, ?_⟩
  unfold nameS
  conv => whnf
  refine call0 (word_good s false hs) ?_
  cases hw : refWordS false s with
  | false =>
    conv => whnf
    exact fin0 rfl trivial
  | true =>
  rw [Bool.true_and]
  conv => whnf
  refine call0 (words_good) ?_
  conv => whnf
  have hL : wordsL.length = 11 := rfl
  generalize wordsL = L at *
  refine loop_of hP [0, 2, 3, 4, 7, 12, 20] [] [0, 2, 3, 4] [] [] (fun n st => ∃ k : Nat, n = 11 - k ∧ k ≤ 11 ∧ (∀ j (h : j < L.length), j < k → L[j] ≠ s) ∧ st = ⟨[(0, .str s), (2, .bool false), (3, .sl 1 (strV L)), (4, .int .i64 k)], []⟩) 11 ?_ ?_
  · conv => whnf
    exact ⟨0, rfl, by omega, fun j _ h => by omega, rfl⟩
  · rintro n st ⟨k, rfl, hk, hn, rfl⟩
    conv => whnf
    refine branch_of (fun h => ?_) (fun h => ?_)
    · have h := of_decide_eq_true h
      rw [List.length_map] at h
      have hk' : k < L.length := by omega
      conv => whnf
      refine ⟨[.str L[k]], idxM hk' rfl, ?_⟩
      conv => whnf
      refine branch_of (fun h2 => ?_) (fun h2 => ?_)
      · have h2 := of_decide_eq_true h2
        have : decide (s ∈ L) = true := by rw [decide_eq_true_iff, ← h2]; exact List.getElem_mem hk'
        rw [this]
        conv => whnf
        exact fin0 rfl trivial
      · have h2 := of_decide_eq_false h2
        conv => whnf
        refine ⟨11 - (k + 1), by omega, k + 1, rfl, by omega, fun j hj hjk => ?_, ?_⟩
        · by_cases e : j = k
          · subst e; exact h2
          · exact hn j hj (by omega)
        · rw [wr (by omega) (by omega)]; rfl
    · have h := of_decide_eq_false h
      rw [List.length_map] at h
      have : decide (s ∈ L) = false := by
        rw [decide_eq_false_iff_not]; intro hm
        obtain ⟨j, hj, e⟩ := List.getElem_of_mem hm
        exact hn j hj (by omega) e
      rw [this]
      conv => whnf
      exact fin0 rfl trivial
theorem refTerm_good (t : Trm) (h1 : t.v.length ≤ 1000000) (h2 : t.x.s.length ≤ 1000000) : Good Tryz.prog 86 [.agg t.c] [] [.bool (termOk t)] [] := by
  obtain ⟨v, x⟩ := t
  dsimp only at h1 h2
  refine good_of hP Tryz.func86 (by kernel_rfl) (lv := [0, 1, 2, 6]) (js := []) ⟨rfl, rfl, rfl, rfl, rfl, rfl, _, rfl, ?_⟩
  unfold termOk
  dsimp only
  conv => whnf
  refine branch_of (fun h => ?_) (fun h => ?_)
  · have h := of_decide_eq_true h
    have hv : v ≠ [] := by rintro rfl; exact absurd h (show ¬ (0 : Int) < 0 by omega)
    rw [if_neg hv]
    conv => whnf
    refine call0 (word_good v true h1) ?_
    have ev : varS v = refWordS true v := rfl
    rw [← ev]
    cases varS v with
    | false =>
      conv => whnf
      exact fin0 rfl trivial
    | true =>
      conv => whnf
      refine ⟨_, (eqVal x zeroV).1, ?_⟩
      conv => whnf
      exact fin0 rfl trivial
  · have h := of_decide_eq_false h
    have hv : v = [] := List.eq_nil_of_length_eq_zero (by dsimp only at h; omega)
    rw [if_pos hv]
    conv => whnf
    refine call0 (refValue_good x h2) ?_
    conv => whnf
    exact fin0 rfl trivial
/-- what is played of atoms -/
def atmL (a : Atm) : Prop := a.n.length ≤ 1000000 ∧ ∀ t ∈ a.a, t.v.length ≤ 1000000 ∧ t.x.s.length ≤ 1000000
theorem refAtom_good (a : Atm) (hb : atmL a) : Good Tryz.prog 34 [.agg a.c] [] [.bool (atomOk a)] [] := by
  obtain ⟨n, l⟩ := a
  obtain ⟨h1, h2⟩ := hb
  dsimp only at h1 h2
  refine good_of hP Tryz.func34 (by kernel_rfl) (lv := [0, 1, 2, 3, 13, 18, 27]) (js := []) ⟨rfl, rfl, rfl, rfl, rfl, rfl, _, rfl, ?_⟩
  unfold atomOk
  dsimp only
  conv => whnf
  refine call0 (refName_good n h1) ?_
  cases hn : nameS n with
  | false =>
    conv => whnf
    exact fin0 rfl trivial
  | true =>
  rw [Bool.true_and]
  conv => whnf
  refine branch_of (fun h => ?_) (fun h => ?_)
  · have h := of_decide_eq_true h
    rw [List.length_map] at h
    dsimp only at h
    have e : decide (l.length ≤ 5) = false := decide_eq_false (by omega)
    rw [e, Bool.false_and]
    conv => whnf
    exact fin0 rfl trivial
  have h := of_decide_eq_false h
  rw [List.length_map] at h
  dsimp only at h
  have e : decide (l.length ≤ 5) = true := decide_eq_true (by omega)
  rw [e, Bool.true_and]
  conv => whnf
  refine loop_of hP [0, 1, 2, 3, 13, 18, 27] [] [1, 2, 3] [65] [] (fun m st => ∃ k : Nat, m = l.length - k ∧ k ≤ l.length ∧ l.all termOk = (l.drop k).all termOk ∧ st = ⟨[(1, .ptr 65 0 0), (2, .bool false), (3, .int .i64 k)], [(65, .box 0 (Atm.c ⟨n, l⟩))]⟩) l.length ?_ ?_
  · conv => whnf
    exact ⟨0, rfl, Nat.zero_le _, rfl, rfl⟩
  · rintro m st ⟨k, rfl, hk, he, rfl⟩
    conv => whnf
    refine branch_of (fun g => ?_) (fun g => ?_)
    · have g := of_decide_eq_true g
      rw [List.length_map] at g
      have hk' : k < l.length := by dsimp only at g; omega
      rw [List.drop_eq_getElem_cons hk', List.all_cons] at he
      conv => whnf
      refine ⟨Trm.c l[k], idxM hk' rfl, ?_⟩
      conv => whnf
      refine call0 (refTerm_good l[k] (h2 _ (List.getElem_mem hk')).1 (h2 _ (List.getElem_mem hk')).2) ?_
      cases ht : termOk l[k] with
      | false =>
        rw [ht, Bool.false_and] at he
        rw [he]
        conv => whnf
        exact fin0 rfl trivial
      | true =>
        rw [ht, Bool.true_and] at he
        conv => whnf
        refine ⟨l.length - (k + 1), by omega, k + 1, rfl, by omega, he, ?_⟩
        rw [wr (by omega) (by omega)]; rfl
    · have g := of_decide_eq_false g
      rw [List.length_map] at g
      have hd : l.drop k = [] := List.drop_eq_nil_iff.2 (by dsimp only at g; omega)
      rw [hd] at he
      rw [he]
      conv => whnf
      exact fin0 rfl trivial
theorem refFact_good (f : Fct) (h1 : f.n.length ≤ 1000000) (h2 : ∀ v ∈ f.a, v.s.length ≤ 1000000) : Good Tryz.prog 74 [.agg f.c] [] [.bool (factOk f)] [] := by
  obtain ⟨n, l⟩ := f
  dsimp only at h1 h2
  refine good_of hP Tryz.func74 (by kernel_rfl) (lv := [0, 1, 2, 3, 13, 18, 27]) (js := []) ⟨rfl, rfl, rfl, rfl, rfl, rfl, _, rfl, ?_⟩
  unfold factOk
  dsimp only
  conv => whnf
  refine call0 (refName_good n h1) ?_
  cases hn : nameS n with
  | false =>
    conv => whnf
    exact fin0 rfl trivial
  | true =>
  rw [Bool.true_and]
  conv => whnf
  refine branch_of (fun h => ?_) (fun h => ?_)
  · have h := of_decide_eq_true h
    rw [List.length_map] at h
    dsimp only at h
    have e : decide (l.length ≤ 5) = false := decide_eq_false (by omega)
    rw [e, Bool.false_and]
    conv => whnf
    exact fin0 rfl trivial
  have h := of_decide_eq_false h
  rw [List.length_map] at h
  dsimp only at h
  have e : decide (l.length ≤ 5) = true := decide_eq_true (by omega)
  rw [e, Bool.true_and]
  conv => whnf
  refine loop_of hP [0, 1, 2, 3, 13, 18, 27] [] [1, 2, 3] [65] [] (fun m st => ∃ k : Nat, m = l.length - k ∧ k ≤ l.length ∧ l.all checkS = (l.drop k).all checkS ∧ st = ⟨[(1, .ptr 65 0 0), (2, .bool false), (3, .int .i64 k)], [(65, .box 0 (Fct.c ⟨n, l⟩))]⟩) l.length ?_ ?_
  · conv => whnf
    exact ⟨0, rfl, Nat.zero_le _, rfl, rfl⟩
  · rintro m st ⟨k, rfl, hk, he, rfl⟩
    conv => whnf
    refine branch_of (fun g => ?_) (fun g => ?_)
    · have g := of_decide_eq_true g
      rw [List.length_map] at g
      have hk' : k < l.length := by dsimp only at g; omega
      rw [List.drop_eq_getElem_cons hk', List.all_cons] at he
      conv => whnf
      refine ⟨Val.c l[k], idxM hk' rfl, ?_⟩
      conv => whnf
      refine call0 (refValue_good l[k] (h2 _ (List.getElem_mem hk'))) ?_
      cases ht : checkS l[k] with
      | false =>
        rw [ht, Bool.false_and] at he
        rw [he]
        conv => whnf
        exact fin0 rfl trivial
      | true =>
        rw [ht, Bool.true_and] at he
        conv => whnf
        refine ⟨l.length - (k + 1), by omega, k + 1, rfl, by omega, he, ?_⟩
        rw [wr (by omega) (by omega)]; rfl
    · have g := of_decide_eq_false g
      rw [List.length_map] at g
      have hd : l.drop k = [] := List.drop_eq_nil_iff.2 (by dsimp only at g; omega)
      rw [hd] at he
      rw [he]
      conv => whnf
      exact fin0 rfl trivial
end Go.PV
namespace Go.PV
open Go Go.Proofs
set_option maxRecDepth 100000
def tok0 : Tok := ⟨0, [], (0, 0)⟩
theorem qtok_good (q : Rf) (hb : tokB q.l) : Good Tryz.prog 156 [.ptr 0 0 0] [q.ob] [.agg (q.tok.getD tok0).c, .bool q.tok.isSome] [q.ob] := by
  obtain ⟨l, i, b⟩ := q
  obtain ⟨hl, ht⟩ := hb
  dsimp only at hl ht
  refine good_of hP Tryz.func156 (by kernel_rfl) (lv := [0, 2, 3, 54]) (js := []) ⟨rfl, rfl, rfl, rfl, rfl, rfl, _, rfl, ?_⟩
  unfold Rf.tok
  dsimp only
  conv => whnf
  refine branch_of (fun h => ?_) (fun h => ?_)
  · have h := of_decide_eq_true h
    rw [List.length_map] at h
    dsimp only at h
    have e : l[i]? = none := List.getElem?_eq_none (by omega)
    rw [e]
    conv => whnf
    refine ⟨by kernel_rfl, ?_⟩
    conv => whnf
    refine ⟨[], rfl, ?_⟩
    conv => whnf
    exact ⟨⟨⟩, rfl, trivial⟩
  have h := of_decide_eq_false h
  rw [List.length_map] at h
  dsimp only at h
  have hi : i < l.length := by omega
  have e : l[i]? = some l[i] := List.getElem?_eq_getElem hi
  rw [e]
  dsimp only
  unfold tokOk
  conv => whnf
  refine ⟨Tok.c l[i], idxM hi rfl, ?_⟩
  conv => whnf
  refine call0 (in9_good l[i].k 1 5) ?_
  cases h1 : decide (1 ≤ l[i].k ∧ l[i].k ≤ 5) with
  | false =>
    rw [Bool.false_and]
    conv => whnf
    refine ⟨by kernel_rfl, ?_⟩
    conv => whnf
    refine ⟨[], rfl, ?_⟩
    conv => whnf
    exact ⟨⟨⟩, rfl, trivial⟩
  | true =>
  rw [Bool.true_and]
  conv => whnf
  refine ⟨Tok.c l[i], idxM hi rfl, ?_⟩
  conv => whnf
  refine ⟨Tok.c l[i], idxM hi rfl, ?_⟩
  conv => whnf
  refine call0 (right_good l[i].k l[i].t (Nat.le_trans (ht _ (List.getElem_mem hi)) (by omega))) ?_
  cases h2 : refRight l[i].k l[i].t with
  | false =>
    conv => whnf
    refine ⟨by kernel_rfl, ?_⟩
    conv => whnf
    refine ⟨[], rfl, ?_⟩
    conv => whnf
    exact ⟨⟨⟩, rfl, trivial⟩
  | true =>
    conv => whnf
    refine ⟨by kernel_rfl, ?_⟩
    conv => whnf
    refine ⟨Tok.c l[i], idxM hi rfl, ?_⟩
    conv => whnf
    refine ⟨by kernel_rfl, ?_⟩
    conv => whnf
    refine ⟨[], rfl, ?_⟩
    conv => whnf
    exact ⟨⟨⟩, rfl, trivial⟩
theorem qis_good (q : Rf) (k : Int) (s : Bs) (hb : tokB q.l) : Good Tryz.prog 134 [.ptr 0 0 0, .int .i64 k, .str s] [q.ob] [.bool (q.is k s)] [q.ob] := by
  refine good_of hP Tryz.func134 (by kernel_rfl) (lv := [0, 1, 2, 6, 7, 8]) (js := []) ⟨rfl, rfl, rfl, rfl, rfl, rfl, _, rfl, ?_⟩
  unfold Rf.is
  conv => whnf
  refine callN [(0, 0)] (qtok_good q hb) ?_ 
  conv => whnf
  refine ⟨⟨⟩, rfl, ?_⟩
  cases q.tok with
  | none =>
    conv => whnf
    refine ⟨[], rfl, ?_⟩
    conv => whnf
    exact ⟨⟨⟩, rfl, trivial⟩
  | some t =>
    dsimp only
    conv => whnf
    refine branch_of (fun h => ?_) (fun h => ?_)
    · have h : decide (t.k = k) = true := h
      rw [h]
      conv => whnf
      refine ⟨[], rfl, ?_⟩
      conv => whnf
      exact ⟨⟨⟩, rfl, trivial⟩
    · have h : decide (t.k = k) = false := h
      rw [h]
      conv => whnf
      refine ⟨[], rfl, ?_⟩
      conv => whnf
      exact ⟨⟨⟩, rfl, trivial⟩
theorem tok_lt {q : Rf} {t : Tok} (h : q.tok = some t) : q.i < q.l.length ∧ t ∈ q.l := by
  unfold Rf.tok at h
  split at h
  · rename_i u hu
    split at h
    · cases h
      exact ⟨(List.getElem?_eq_some_iff.1 hu).1, List.mem_of_getElem? hu⟩
    · cases h
  · cases h
theorem is_lt {q : Rf} {k : Int} {s : Bs} (h : q.is k s = true) : q.i < q.l.length := by
  unfold Rf.is at h
  split at h
  · rename_i t ht; exact (tok_lt ht).1
  · cases h
theorem qtake_good (q : Rf) (k : Int) (s : Bs) (hb : tokB q.l) : Good Tryz.prog 71 [.ptr 0 0 0, .int .i64 k, .str s] [q.ob] [] [(q.take k s).ob] := by
  refine good_of hP Tryz.func71 (by kernel_rfl) (lv := [0, 1, 2, 15]) (js := []) ⟨rfl, rfl, rfl, rfl, rfl, rfl, _, rfl, ?_⟩
  have hl := hb.1
  unfold Rf.take
  conv => whnf
  cases ho : q.ok with
  | false =>
    rw [Bool.false_and, if_neg (by simp)]
    conv => whnf
    refine ⟨[], rfl, ?_⟩
    conv => whnf
    exact ⟨⟨⟩, rfl, trivial⟩
  | true =>
  rw [Bool.true_and]
  conv => whnf
  refine callN [(0, 0)] (qis_good q k s hb) ?_ 
  conv => whnf
  refine ⟨⟨⟩, rfl, ?_⟩
  cases h : q.is k s with
  | false =>
    rw [if_neg (by simp)]
    conv => whnf
    refine ⟨[], rfl, ?_⟩
    conv => whnf
    exact ⟨⟨⟩, rfl, trivial⟩
  | true =>
    rw [if_pos rfl]
    have := is_lt h
    have hw : IntKind.i64.wrap ((q.i : Int) + 1) = (q.i + 1 : Nat) := by rw [wr (by omega) (by omega)]; rfl
    conv => whnf
    rw [hw]
    refine ⟨[], rfl, ?_⟩
    conv => whnf
    exact ⟨⟨⟩, rfl, trivial⟩
theorem qname_good (q : Rf) (hb : tokB q.l) : Good Tryz.prog 97 [.ptr 0 0 0] [q.ob] [.str q.name.1] [q.name.2.ob] := by
  refine good_of hP Tryz.func97 (by kernel_rfl) (lv := [0, 2, 3, 4, 29]) (js := []) ⟨rfl, rfl, rfl, rfl, rfl, rfl, _, rfl, ?_⟩
  have hl := hb.1
  conv => whnf
  refine callN [(0, 0)] (qtok_good q hb) ?_ 
  conv => whnf
  refine ⟨⟨⟩, rfl, ?_⟩
  conv => whnf
  cases hk : q.tok with
  | none =>
    have e : q.name = ([], q.fail) := by unfold Rf.name; rw [hk]
    rw [e]
    cases ho : q.ok with
    | false =>
      conv => whnf
      refine ⟨[], rfl, ?_⟩
      conv => whnf
      exact ⟨⟨⟩, rfl, trivial⟩
    | true =>
      conv => whnf
      refine ⟨[], rfl, ?_⟩
      conv => whnf
      exact ⟨⟨⟩, rfl, trivial⟩
  | some t =>
  obtain ⟨hi, hm⟩ := tok_lt hk
  have hw : IntKind.i64.wrap ((q.i : Int) + 1) = (q.i + 1 : Nat) := by rw [wr (by omega) (by omega)]; rfl
  cases ho : q.ok with
  | false =>
    have e : q.name = ([], q.fail) := by unfold Rf.name; rw [hk]; exact if_neg (fun x => by rw [ho] at x; cases x.1)
    rw [e]
    conv => whnf
    refine ⟨[], rfl, ?_⟩
    conv => whnf
    exact ⟨⟨⟩, rfl, trivial⟩
  | true =>
  conv => whnf
  refine branch_of (fun h => ?_) (fun h => ?_)
  · have h : (!decide (t.k = 1)) = true := h
    rw [Bool.not_eq_true'] at h
    have h := of_decide_eq_false h
    have e : q.name = ([], q.fail) := by unfold Rf.name; rw [hk]; exact if_neg (fun x => h x.2.1)
    rw [e]
    conv => whnf
    refine ⟨[], rfl, ?_⟩
    conv => whnf
    exact ⟨⟨⟩, rfl, trivial⟩
  have h : (!decide (t.k = 1)) = false := h
  rw [Bool.not_eq_false'] at h
  have h := of_decide_eq_true h
  conv => whnf
  refine call0 (refName_good t.t (Nat.le_trans (hb.2 t hm) (by omega))) ?_
  cases hn : nameS t.t with
  | false =>
    have e : q.name = ([], q.fail) := by unfold Rf.name; rw [hk]; exact if_neg (fun x => by rw [hn] at x; cases x.2.2)
    rw [e]
    conv => whnf
    refine ⟨[], rfl, ?_⟩
    conv => whnf
    exact ⟨⟨⟩, rfl, trivial⟩
  | true =>
    have e : q.name = (t.t, q.step) := by unfold Rf.name; rw [hk]; exact if_pos ⟨ho, h, hn⟩
    have hst : q.step = ⟨q.l, q.i + 1, true⟩ := by unfold Rf.step; rw [ho]
    rw [e, hst]
    conv => whnf
    rw [hw]
    refine ⟨[], rfl, ?_⟩
    conv => whnf
    exact ⟨⟨⟩, rfl, trivial⟩
theorem qnum_good (q : Rf) (hb : tokB q.l) : Good Tryz.prog 179 [.ptr 0 0 0] [q.ob] [.int .i64 q.num.1] [q.num.2.ob] := by
  refine good_of hP Tryz.func179 (by kernel_rfl) (lv := [0, 2, 3, 4, 5, 25]) (js := []) ⟨rfl, rfl, rfl, rfl, rfl, rfl, _, rfl, ?_⟩
  have hl := hb.1
  conv => whnf
  refine callN [(0, 0)] (qtok_good q hb) ?_ 
  conv => whnf
  refine ⟨⟨⟩, rfl, ?_⟩
  conv => whnf
  cases hk : q.tok with
  | none =>
    have e : q.num = (0, q.fail) := by unfold Rf.num; rw [hk]
    rw [e]
    cases ho : q.ok with
    | false =>
      conv => whnf
      refine ⟨[], rfl, ?_⟩
      conv => whnf
      exact ⟨⟨⟩, rfl, trivial⟩
    | true =>
      conv => whnf
      refine ⟨[], rfl, ?_⟩
      conv => whnf
      exact ⟨⟨⟩, rfl, trivial⟩
  | some t =>
  obtain ⟨hi, hm⟩ := tok_lt hk
  have hw : IntKind.i64.wrap ((q.i : Int) + 1) = (q.i + 1 : Nat) := by rw [wr (by omega) (by omega)]; rfl
  cases ho : q.ok with
  | false =>
    have e : q.num = (0, q.fail) := by unfold Rf.num; rw [hk]; exact if_neg (fun x => by rw [ho] at x; cases x.1)
    rw [e]
    conv => whnf
    refine ⟨[], rfl, ?_⟩
    conv => whnf
    exact ⟨⟨⟩, rfl, trivial⟩
  | true =>
  conv => whnf
  refine branch_of (fun h => ?_) (fun h => ?_)
  · have h : (!decide (t.k = 3)) = true := h
    rw [Bool.not_eq_true'] at h
    have h := of_decide_eq_false h
    have e : q.num = (0, q.fail) := by unfold Rf.num; rw [hk]; exact if_neg (fun x => h x.2)
    rw [e]
    conv => whnf
    refine ⟨[], rfl, ?_⟩
    conv => whnf
    exact ⟨⟨⟩, rfl, trivial⟩
  have h : (!decide (t.k = 3)) = false := h
  rw [Bool.not_eq_false'] at h
  have h := of_decide_eq_true h
  have e : q.num = ((refNumS t.t).getD 0, q.step) := by unfold Rf.num; rw [hk]; exact if_pos ⟨ho, h⟩
  have hst : q.step = ⟨q.l, q.i + 1, true⟩ := by unfold Rf.step; rw [ho]
  rw [e, hst]
  conv => whnf
  refine call0 (refNumber_good t.t (Nat.le_trans (hb.2 t hm) (by omega))) ?_
  conv => whnf
  rw [hw]
  refine ⟨[], rfl, ?_⟩
  conv => whnf
  exact ⟨⟨⟩, rfl, trivial⟩
theorem qterm_good (q : Rf) (hb : tokB q.l) : Good Tryz.prog 157 [.ptr 0 0 0] [q.ob] [.agg q.term.1.c] [q.term.2.ob] := by
  refine good_of hP Tryz.func157 (by kernel_rfl) (lv := [0, 2, 3, 4, 5, 7, 27, 40, 41, 46, 57]) (js := []) ⟨rfl, rfl, rfl, rfl, rfl, rfl, _, rfl, ?_⟩
  have hl := hb.1
  conv => whnf
  refine callN [(0, 0)] (qtok_good q hb) ?_ 
  conv => whnf
  refine ⟨⟨⟩, rfl, ?_⟩
  conv => whnf
  cases hk : q.tok with
  | none =>
    have e : q.term = (zeroT, q.fail) := by unfold Rf.term; rw [hk]
    rw [e]
    cases ho : q.ok with
    | false =>
      conv => whnf
      refine ⟨[], rfl, ?_⟩
      conv => whnf
      exact ⟨⟨⟩, rfl, trivial⟩
    | true =>
      conv => whnf
      refine ⟨[], rfl, ?_⟩
      conv => whnf
      exact ⟨⟨⟩, rfl, trivial⟩
  | some t =>
  obtain ⟨hi, hm⟩ := tok_lt hk
  have hw : IntKind.i64.wrap ((q.i : Int) + 1) = (q.i + 1 : Nat) := by rw [wr (by omega) (by omega)]; rfl
  cases ho : q.ok with
  | false =>
    have e : q.term = (zeroT, q.fail) := by unfold Rf.term; rw [hk]; exact if_neg (fun x => by rw [ho] at x; cases x.1)
    rw [e]
    conv => whnf
    refine ⟨[], rfl, ?_⟩
    conv => whnf
    exact ⟨⟨⟩, rfl, trivial⟩
  | true =>
  conv => whnf
  refine branch_of (fun h => ?_) (fun h => ?_)
  · have h : t.k = 5 := of_decide_eq_true h
    have e : q.term = (zeroT, q.fail) := by unfold Rf.term; rw [hk]; exact if_neg (fun x => x.2 h)
    rw [e]
    conv => whnf
    refine ⟨[], rfl, ?_⟩
    conv => whnf
    exact ⟨⟨⟩, rfl, trivial⟩
  have h : ¬ t.k = 5 := of_decide_eq_false h
  have e : q.term = (refTerm t, q.step) := by unfold Rf.term; rw [hk]; exact if_pos ⟨ho, h⟩
  have hst : q.step = ⟨q.l, q.i + 1, true⟩ := by unfold Rf.step; rw [ho]
  rw [e, hst]
  unfold refTerm
  conv => whnf
  rw [hw]
  refine branch_of (fun h2 => ?_) (fun h2 => ?_)
  · have h2 : t.k = 2 := of_decide_eq_true h2
    rw [if_pos h2]
    conv => whnf
    refine ⟨[], rfl, ?_⟩
    conv => whnf
    exact ⟨⟨⟩, rfl, trivial⟩
  have h2 : ¬ t.k = 2 := of_decide_eq_false h2
  rw [if_neg h2]
  conv => whnf
  refine branch_of (fun h3 => ?_) (fun h3 => ?_)
  · have h3 : t.k = 3 := of_decide_eq_true h3
    rw [if_pos h3]
    conv => whnf
    refine call0 (refNumber_good t.t (Nat.le_trans (hb.2 t hm) (by omega))) ?_
    conv => whnf
    refine ⟨[], rfl, ?_⟩
    conv => whnf
    exact ⟨⟨⟩, rfl, trivial⟩
  have h3 : ¬ t.k = 3 := of_decide_eq_false h3
  rw [if_neg h3]
  conv => whnf
  refine branch_of (fun h4 => ?_) (fun h4 => ?_)
  · have h4 : t.k = 4 := of_decide_eq_true h4
    rw [if_pos h4]
    conv => whnf
    refine call0 (refQuoted_good t.t (Nat.le_trans (hb.2 t hm) (by omega))) ?_
    conv => whnf
    refine ⟨[], rfl, ?_⟩
    conv => whnf
    exact ⟨⟨⟩, rfl, trivial⟩
  have h4 : ¬ t.k = 4 := of_decide_eq_false h4
  rw [if_neg h4]
  conv => whnf
  refine ⟨[], rfl, ?_⟩
  conv => whnf
  exact ⟨⟨⟩, rfl, trivial⟩
end Go.PV
namespace Go.PV
open Go Go.Proofs
set_option maxRecDepth 100000
theorem qatom_no {q : Rf} (h : (q.name.2.ok && q.name.2.is 5 [40]) = false) : q.atom = (⟨q.name.1, []⟩, q.name.2) := by
  unfold Rf.atom; rw [if_neg (by rw [h]; simp)]
theorem qatom_yes {q : Rf} (h : (q.name.2.ok && q.name.2.is 5 [40]) = true) : q.atom = (⟨q.name.1, q.name.2.step.term.1 :: (Rf.args q.name.2.l.length q.name.2.step.term.2).1⟩, (Rf.args q.name.2.l.length q.name.2.step.term.2).2.take 5 [41]) := by
  unfold Rf.atom; rw [if_pos h]
theorem qatom_good (q : Rf) (hb : tokB q.l) : Good Tryz.prog 98 [.ptr 0 0 0] [q.ob] [.agg q.atom.1.c] [q.atom.2.ob] := by
  have hl := hb.1
  refine good_of hP Tryz.func98 (by kernel_rfl) (lv := [0, 2, 3, 16, 39]) (js := []) ⟨rfl, rfl, rfl, rfl, rfl, rfl, _, rfl, ?_⟩
  have hn := Rf.name_l q
  conv => whnf
  refine callN [(0, 0)] (qname_good q hb) ?_ 
  conv => whnf
  refine ⟨⟨⟩, rfl, ?_⟩
  have hy := qatom_yes (q := q)
  have hno := qatom_no (q := q)
  generalize hx : q.name = x at *
  obtain ⟨n, ⟨xl, xi, xo⟩⟩ := x
  dsimp only at hn hy hno
  obtain rfl : xl = q.l := hn.1
  conv => whnf
  cases xo with
  | false =>
    rw [hno rfl]
    conv => whnf
    refine ⟨[], rfl, ?_⟩
    conv => whnf
    exact ⟨⟨⟩, rfl, trivial⟩
  | true =>
  conv => whnf
  refine callN [(0, 0)] (qis_good ⟨q.l, xi, true⟩ 5 [40] hb) ?_ 
  conv => whnf
  refine ⟨⟨⟩, rfl, ?_⟩
  cases hs : (⟨q.l, xi, true⟩ : Rf).is 5 [40] with
  | false =>
    rw [hno (by rw [hs]; rfl)]
    conv => whnf
    refine ⟨[], rfl, ?_⟩
    conv => whnf
    exact ⟨⟨⟩, rfl, trivial⟩
  | true =>
  rw [hy (by rw [hs]; rfl)]
  have hlt : xi < q.l.length := is_lt hs
  have hw : IntKind.i64.wrap ((xi : Int) + 1) = (xi + 1 : Nat) := by rw [wr (by omega) (by omega)]; rfl
  conv => whnf
  rw [hw]
  have h1 := Rf.term_l ⟨q.l, xi + 1, true⟩
  refine callN [(0, 0)] (qterm_good ⟨q.l, xi + 1, true⟩ hb) ?_ 
  conv => whnf
  refine ⟨⟨⟩, rfl, ?_⟩
  have hst : (⟨q.l, xi, true⟩ : Rf).step = ⟨q.l, xi + 1, true⟩ := rfl
  rw [hst]
  generalize hz : (⟨q.l, xi + 1, true⟩ : Rf).term = y at *
  have hyl : y.2.l = q.l := h1.1
  generalize hU : Rf.args q.l.length y.2 = U
  conv => whnf
  refine ⟨⟨⟩, by dsimp only; simp only [List.length_cons, List.length_nil]; omega, ?_⟩
  conv => whnf
  refine ⟨by kernel_rfl, ?_⟩
  conv => whnf
  refine loop_of hP [0, 2, 3, 16, 39] [] [0, 2, 3] [0, 66, 67, 94] [] (fun m st => ∃ (f : Nat) (ts : List Trm) (p : Rf), m = p.l.length - p.i ∧ p.l = q.l ∧ p.l.length ≤ f + p.i ∧ f + ts.length = q.l.length ∧ U = (ts ++ (Rf.args f p).1, (Rf.args f p).2) ∧
    st = ⟨[(0, .ptr 0 0 0), (2, .ptr 66 0 0), (3, .ptr 67 0 0)], [(0, p.ob), (66, .box 0 [.str [], .nil]), (67, .box 0 [.str n, .own 94 0]), (94, .arr 0 false 4 (trmV (y.1 :: ts)))]⟩) (y.2.l.length - y.2.i) ?_ ?_
  · conv => whnf
    exact ⟨q.l.length, [], y.2, rfl, hyl, by rw [hyl]; omega, rfl, hU.symm, rfl⟩
  · rintro m st ⟨f, ts, ⟨pl, pi, po⟩, rfl, hp, hf, hts, he, rfl⟩
    dsimp only at hp hf
    subst hp
    conv => whnf
    cases po with
    | false =>
      have hu : Rf.args f ⟨q.l, pi, false⟩ = ([], ⟨q.l, pi, false⟩) := by cases f <;> rfl
      rw [hu, List.append_nil] at he
      subst he
      conv => whnf
      refine callN [(0, 0)] (qtake_good ⟨q.l, pi, false⟩ 5 [41] hb) ?_ 
      conv => whnf
      refine ⟨⟨⟩, rfl, ?_⟩
      conv => whnf
      refine ⟨[], rfl, ?_⟩
      conv => whnf
      exact ⟨⟨⟩, rfl, trivial⟩
    | true =>
    conv => whnf
    refine callN [(0, 0)] (qis_good ⟨q.l, pi, true⟩ 5 [44] hb) ?_ 
    conv => whnf
    refine ⟨⟨⟩, rfl, ?_⟩
    cases hs2 : (⟨q.l, pi, true⟩ : Rf).is 5 [44] with
    | false =>
      have hu : Rf.args f ⟨q.l, pi, true⟩ = ([], ⟨q.l, pi, true⟩) := by cases f with
        | zero => rfl
        | succ f => rw [Rf.args, hs2]; rfl
      rw [hu, List.append_nil] at he
      subst he
      conv => whnf
      refine callN [(0, 0)] (qtake_good ⟨q.l, pi, true⟩ 5 [41] hb) ?_ 
      conv => whnf
      refine ⟨⟨⟩, rfl, ?_⟩
      conv => whnf
      refine ⟨[], rfl, ?_⟩
      conv => whnf
      exact ⟨⟨⟩, rfl, trivial⟩
    | true =>
      have hlt2 : pi < q.l.length := is_lt hs2
      obtain ⟨f, rfl⟩ : ∃ f', f = f' + 1 := ⟨f - 1, by omega⟩
      rw [Rf.args, hs2] at he
      have hw2 : IntKind.i64.wrap ((pi : Int) + 1) = (pi + 1 : Nat) := by rw [wr (by omega) (by omega)]; rfl
      conv => whnf
      rw [hw2]
      have h2 := Rf.term_l ⟨q.l, pi + 1, true⟩
      have hst2 : (⟨q.l, pi, true⟩ : Rf).step = ⟨q.l, pi + 1, true⟩ := rfl
      rw [hst2] at he
      refine callN [(0, 0)] (qterm_good ⟨q.l, pi + 1, true⟩ hb) ?_ 
      conv => whnf
      refine ⟨⟨⟩, rfl, ?_⟩
      generalize hzz : (⟨q.l, pi + 1, true⟩ : Rf).term = z at *
      have h3 : z.2.l = q.l := h2.1
      have h4 : pi + 1 ≤ z.2.i := h2.2.1
      have hU2 : U = ((ts ++ [z.1]) ++ (Rf.args f z.2).1, (Rf.args f z.2).2) := by rw [he]; simp
      conv => whnf
      refine ⟨⟨⟩, by dsimp only; simp only [List.length_map, List.length_cons, List.length_nil]; omega, ?_⟩
      conv => whnf
      refine ⟨by kernel_rfl, ?_⟩
      conv => whnf
      refine ⟨z.2.l.length - z.2.i, by show z.2.l.length - z.2.i < q.l.length - pi; rw [h3]; omega, f, ts ++ [z.1], z.2, rfl, h3, by rw [h3]; omega, by simp; omega, hU2, ?_⟩
      rw [show trmV (y.1 :: (ts ++ [z.1])) = trmV (y.1 :: ts) ++ [z.1.c] from by simp]
theorem refQGo_len : ∀ (s out : Bs), (refQGo out s).1.length ≤ out.length + s.length := by
  intro s out
  fun_induction refQGo out s <;> simp_all <;> omega
theorem refQuoted_len (s : Bs) : (refQuotedS s).1.length ≤ s.length := by
  unfold refQuotedS
  split
  · split
    · have := refQGo_len (by assumption) []
      rename_i c d r _
      have := refQGo_len (d :: r) []
      simp at this ⊢; omega
    · simp
  · simp
def trmL (t : Trm) : Prop := t.v.length ≤ 1000000 ∧ t.x.s.length ≤ 1000000
theorem Rf.name_b {q : Rf} (hb : tokB q.l) : q.name.1.length ≤ 1000000 := by
  unfold Rf.name
  split
  · rename_i t ht
    split
    · exact Nat.le_trans (hb.2 t (tok_lt ht).2) (by omega)
    · simp
  · simp
theorem Rf.term_b {q : Rf} (hb : tokB q.l) : trmL q.term.1 := by
  unfold Rf.term
  split
  · rename_i t ht
    have h := hb.2 t (tok_lt ht).2
    split
    · unfold refTerm trmL
      have hq := refQuoted_len t.t
      split
      · exact ⟨Nat.le_trans h (by omega), Nat.zero_le _⟩
      · split
        · exact ⟨Nat.zero_le _, Nat.zero_le _⟩
        · split
          · exact ⟨Nat.zero_le _, Nat.le_trans hq (Nat.le_trans h (by omega))⟩
          · exact ⟨Nat.zero_le _, Nat.le_trans h (by omega)⟩
    · exact ⟨Nat.zero_le _, Nat.zero_le _⟩
  · exact ⟨Nat.zero_le _, Nat.zero_le _⟩
theorem Rf.args_b : ∀ (f : Nat) {q : Rf}, tokB q.l → ∀ t ∈ (Rf.args f q).1, trmL t
  | 0, q, hb => fun t ht => by cases ht
  | f + 1, q, hb => by
    rw [Rf.args]
    split
    · intro t ht
      have h1 := Rf.term_l q.step
      rcases List.mem_cons.1 ht with rfl | ht
      · exact Rf.term_b (q := q.step) hb
      · exact Rf.args_b f (q := q.step.term.2) (by rw [h1.1]; exact hb) t ht
    · intro t ht; cases ht
theorem Rf.atom_b {q : Rf} (hb : tokB q.l) : atmL q.atom.1 := by
  have hn := Rf.name_l q
  have hnb := Rf.name_b hb
  cases h : (q.name.2.ok && q.name.2.is 5 [40]) with
  | false => rw [qatom_no h]; exact ⟨hnb, fun t ht => by cases ht⟩
  | true =>
    rw [qatom_yes h]
    have hb2 : tokB q.name.2.step.l := by show tokB q.name.2.l; rw [hn.1]; exact hb
    have h1 := Rf.term_l q.name.2.step
    refine ⟨hnb, fun t ht => ?_⟩
    rcases List.mem_cons.1 ht with rfl | ht
    · exact Rf.term_b hb2
    · exact Rf.args_b _ (by rw [h1.1]; exact hb2) t ht
/-- ReadAtom of the page -/
theorem qreadA_good (l : List Tok) (i : Nat) (hb : tokB l) (hi : i ≤ l.length) : Good Tryz.prog 68 [.sl 4 (toksV l), .int .i64 i] [] [.agg (readA l i).1.c, .int .i64 (readA l i).2.1, .int .i64 (readA l i).2.2] [] := by
  rw [readA_ref hi]
  refine good_of hP Tryz.func68 (by kernel_rfl) (lv := [0, 1, 4, 5, 6, 7, 8, 13, 21, 27]) (js := []) ⟨rfl, rfl, rfl, rfl, rfl, rfl, _, rfl, ?_⟩
  have hl := hb.1
  conv => whnf
  refine call0 (in9_good i 0 (toksV l).length) ?_
  rw [List.length_map, decide_eq_true (by omega)]
  conv => whnf
  refine callN [(71, 0)] (qatom_good ⟨l, i, true⟩ hb) ?_ 
  conv => whnf
  refine ⟨⟨⟩, rfl, ?_⟩
  conv => whnf
  have hab := Rf.atom_b (q := ⟨l, i, true⟩) hb
  unfold refReadA
  dsimp only
  generalize (⟨l, i, true⟩ : Rf).atom = x at *
  obtain ⟨a, ⟨xl, xi, xo⟩⟩ := x
  cases xo with
  | false =>
    dsimp only
    rw [if_neg (by simp)]
    conv => whnf
    refine ⟨by kernel_rfl, ?_⟩
    conv => whnf
    exact fin0 rfl trivial
  | true =>
  dsimp only
  rw [if_pos rfl]
  conv => whnf
  refine call0 (refAtom_good a hab) ?_
  cases ha : atomOk a with
  | false =>
    rw [if_neg (by simp)]
    conv => whnf
    exact fin0 rfl trivial
  | true =>
    rw [if_pos rfl]
    conv => whnf
    refine ⟨by kernel_rfl, ?_⟩
    conv => whnf
    exact fin0 rfl trivial
/-- the place of a sign -/
theorem qplace_good (l : List Tok) (i : Nat) (hl : l.length ≤ 1000000) (hp : ∀ t ∈ l, 0 ≤ t.p.2 ∧ t.p.2 ≤ 1000000) : Good Tryz.prog 69 [.sl 4 (toksV l), .int .i64 i] [] [.agg [.int .i64 (placeT l i).1, .int .i64 (placeT l i).2]] [] := by
  refine good_of hP Tryz.func69 (by kernel_rfl) (lv := [0, 1, 4, 5, 9, 17]) (js := []) ⟨rfl, rfl, rfl, rfl, rfl, rfl, _, rfl, ?_⟩
  unfold placeT
  conv => whnf
  refine branch_of (fun h => ?_) (fun h => ?_)
  · have h := of_decide_eq_true h
    rw [List.length_map] at h
    have hi : i < l.length := by omega
    rw [List.getElem?_eq_getElem hi]
    conv => whnf
    refine ⟨Tok.c l[i], idxM hi rfl, ?_⟩
    conv => whnf
    exact fin0 rfl trivial
  · have h := of_decide_eq_false h
    rw [List.length_map] at h
    rw [List.getElem?_eq_none (by omega)]
    conv => whnf
    refine branch_of (fun h2 => ?_) (fun h2 => ?_)
    · have h2 := of_decide_eq_true h2
      rw [List.length_map] at h2
      have : l = [] := List.eq_nil_of_length_eq_zero (by omega)
      subst this
      conv => whnf
      exact fin0 rfl trivial
    · have h2 := of_decide_eq_false h2
      rw [List.length_map] at h2
      have hne : l ≠ [] := fun e => by subst e; exact h2 rfl
      have hpos : 0 < l.length := List.length_pos_iff.2 hne
      have hk : l.length - 1 < l.length := by omega
      rw [List.getLast?_eq_getElem?, List.getElem?_eq_getElem hk]
      have hpp := hp _ (List.getElem_mem hk)
      conv => whnf
      refine ⟨Tok.c l[l.length - 1], idxM hk (by rw [List.length_map, wr (by omega) (by omega)]; omega), ?_⟩
      conv => whnf
      refine fin0 ?_ trivial
      rw [wr (by omega) (by omega)]
end Go.PV
namespace Go.PV
open Go
/-! law 10: what is written of an atom, of an expression, is read -/
theorem join_tailK : ∀ l : List Trm, weaveK (tailK l) = Lib.joinTail [44, 32] (l.map termT) ++ [41]
  | [] => by simp [tailK, weaveK, Lib.joinTail]
  | t :: r => by
    have ih := join_tailK r
    simp only [Lib.joinTail] at ih
    simp only [tailK, weaveK, List.nil_append, List.map_cons, Lib.joinTail, List.flatten_cons, ih, termK_T, List.append_assoc]
    rfl
theorem atomT_nil {a : Atm} (h : a.a = []) : atomT a = a.n := by
  unfold atomT atomK; rw [h]; simp [argsK, weaveK]
theorem atomT_join {a : Atm} (h : a.a ≠ []) : a.n ++ [40] ++ Lib.join (a.a.map termT) [44, 32] ++ [41] = atomT a := by
  obtain ⟨n, l⟩ := a
  cases l with
  | nil => exact absurd rfl h
  | cons t r =>
    unfold atomT atomK
    simp only [argsK, weaveK, join_tailK, List.map_cons, Lib.join_cons, termK_T]
    simp
def bT : List Bs := [[], [32, 46], [32, 41], [32, 44], [32, 93], [32, 61, 62, 32, 112]]
def bK : List (List (Bs × KT)) := [[], [([32], (5, [46]))], [([32], (5, [41]))], [([32], (5, [44]))], [([32], (5, [93]))], [([32], (5, [61, 62])), ([32], (1, [112]))]]
theorem bK_facts (k : Nat) (h : k < 6) : ∃ (q : List (Bs × KT)), bK[k]? = some q ∧ bT[k]? = some (weaveK q) ∧ WovK [] q ∧ stopH (weaveK q) = true ∧ q.head?.map (·.2) ≠ some (5, [40]) := by
  have h6 : k = 0 ∨ k = 1 ∨ k = 2 ∨ k = 3 ∨ k = 4 ∨ k = 5 := by omega
  rcases h6 with rfl | rfl | rfl | rfl | rfl | rfl
  · exact ⟨_, rfl, rfl, trivial, rfl, by simp⟩
  · exact ⟨_, rfl, rfl, ⟨rfl, (by unfold Tk; decide +kernel), rfl, trivial⟩, rfl, by simp⟩
  · exact ⟨_, rfl, rfl, ⟨rfl, (by unfold Tk; decide +kernel), rfl, trivial⟩, rfl, by simp⟩
  · exact ⟨_, rfl, rfl, ⟨rfl, (by unfold Tk; decide +kernel), rfl, trivial⟩, rfl, by simp⟩
  · exact ⟨_, rfl, rfl, ⟨rfl, (by unfold Tk; decide +kernel), rfl, trivial⟩, rfl, by simp⟩
  · exact ⟨_, rfl, rfl, ⟨rfl, (by unfold Tk; decide +kernel), rfl, rfl, (by unfold Tk; decide +kernel), rfl, trivial⟩, rfl, by simp⟩
theorem atomT_weave (a : Atm) : weaveK (atomK [] a) = atomT a := rfl
theorem lex_atom {a : Atm} (h : atomOk a = true) {q : List (Bs × KT)} (hq : WovK [] q) (hs : stopH (weaveK q) = true) :
    errR (atomT a ++ weaveK q) = 0 ∧ (toksR (atomT a ++ weaveK q)).map kt = (atomK [] a).map (·.2) ++ q.map (·.2) := by
  have hw := WovK.app (tail := []) (a := atomK [] a) (b := q) (by rw [List.append_nil]; exact wov_atom hs rfl h) hq
  obtain ⟨h1, h2, _⟩ := wovK_R hw rfl
  rw [List.append_nil, weaveK_app, atomT_weave] at h1 h2
  exact ⟨h2, by rw [h1, posL_kt, List.map_append]⟩
theorem read_atom {a : Atm} (h : atomOk a = true) {q : List (Bs × KT)} (hq : WovK [] q) (hs : stopH (weaveK q) = true) (hh : q.head?.map (·.2) ≠ some (5, [40])) :
    readA (toksR (atomT a ++ weaveK q)) 0 = (a, (atomK [] a).length, 0) := by
  have := readA_back (l := toksR (atomT a ++ weaveK q)) (i := 0) (b := []) (m := q.map (·.2)) h (by rw [List.drop_zero]; exact (lex_atom h hq hs).2) (fun _ => by rw [List.head?_map]; exact hh)
  rw [this, Nat.zero_add]
theorem parse_atom {a : Atm} (h : atomOk a = true) : parseA (atomT a) = (a, 0) ∧ errR (atomT a) = 0 ∧ (toksR (atomT a)).length = (atomK [] a).length := by
  have h1 := lex_atom h (q := []) trivial rfl
  have h2 := read_atom h (q := []) trivial rfl (by simp)
  have e : atomT a ++ weaveK [] = atomT a := List.append_nil _
  rw [e] at h1 h2
  have h3 : (toksR (atomT a)).length = (atomK [] a).length := by have := congrArg List.length h1.2; simpa using this
  refine ⟨?_, h1.1, h3⟩
  unfold parseA
  rw [if_pos h1.1, h2]
  dsimp only
  rw [if_pos ⟨rfl, h3.symm⟩]
theorem atomT_inj {a b : Atm} (ha : atomOk a = true) (hb : atomOk b = true) : decide (atomT a = atomT b) = decide (a = b) := by
  rw [decide_eq_decide]
  refine ⟨fun h => ?_, fun h => by rw [h]⟩
  have h1 := (parse_atom ha).1
  rw [h, (parse_atom hb).1] at h1
  exact (congrArg Prod.fst h1).symm
namespace Tree
theorem txt_len : ∀ {T : Tree}, T.ok = true → T.txt.length ≤ 130 * T.size
  | leaf t, h => by have := termT_len h; simp only [txt, size]; omega
  | node k a b, h => by
    simp only [ok, Bool.and_eq_true, decide_eq_true_eq] at h
    have h1 := txt_len h.1.2
    have h2 := txt_len h.2
    have h3 : (opT k).length = 1 := by unfold opT; split; rfl; split <;> rfl
    simp only [txt, nodeT, size, List.length_append, List.length_cons, List.length_nil, h3]; omega
theorem lex_txt {T : Tree} (h : T.ok = true) {q : List (Bs × KT)} (hq : WovK [] q) (hs : stopH (weaveK q) = true) :
    errR (T.txt ++ weaveK q) = 0 ∧ (toksR (T.txt ++ weaveK q)).map kt = (T.toks []).map (·.2) ++ q.map (·.2) := by
  have hw := WovK.app (tail := []) (a := T.toks []) (b := q) (by rw [List.append_nil]; exact wov h [] _ rfl hs) hq
  obtain ⟨h1, h2, _⟩ := wovK_R hw rfl
  rw [List.append_nil, weaveK_app, weave_toks, List.nil_append] at h1 h2
  exact ⟨h2, by rw [h1, posL_kt, List.map_append]⟩
theorem read_txt {T : Tree} (h : T.ok = true) (hz : T.size ≤ 15) {q : List (Bs × KT)} (hq : WovK [] q) (hs : stopH (weaveK q) = true) :
    readX (toksR (T.txt ++ weaveK q)) 0 = (T.ops, (T.toks []).length, 0) := by
  have := readX_back (l := toksR (T.txt ++ weaveK q)) (i := 0) (b := []) (m := q.map (·.2)) h hz (by rw [List.drop_zero]; exact (lex_txt h hq hs).2)
  rw [this, Nat.zero_add]
end Tree
theorem exprT_len {l : List Stp} (h : exprOk l = true) : (exprT l).length ≤ 1950 := by
  obtain ⟨T, h1, rfl, h3⟩ := Tree.of_ok h
  rw [Tree.exprT_ops h1]
  have := Tree.txt_len h1
  omega
theorem read_expr {l : List Stp} (h : exprOk l = true) {q : List (Bs × KT)} (hq : WovK [] q) (hs : stopH (weaveK q) = true) :
    errR (exprT l ++ weaveK q) = 0 ∧ (readX (toksR (exprT l ++ weaveK q)) 0).1 = l ∧ (readX (toksR (exprT l ++ weaveK q)) 0).2.2 = 0 := by
  obtain ⟨T, h1, rfl, h3⟩ := Tree.of_ok h
  rw [Tree.exprT_ops h1, Tree.read_txt h1 h3 hq hs]
  exact ⟨(Tree.lex_txt h1 hq hs).1, rfl, rfl⟩
theorem exprT_inj {a b : List Stp} (ha : exprOk a = true) (hb : exprOk b = true) : decide (exprT a = exprT b) = decide (a = b) := by
  rw [decide_eq_decide]
  refine ⟨fun h => ?_, fun h => by rw [h]⟩
  have h1 := (read_expr ha (q := []) trivial rfl).2.1
  rw [h, (read_expr hb (q := []) trivial rfl).2.1] at h1
  exact h1.symm
theorem termOk_len {t : Trm} (h : termOk t = true) : t.v.length ≤ 24 ∧ t.x.s.length ≤ 60 := by
  unfold termOk at h
  split at h
  · rename_i hv
    refine ⟨by rw [hv]; exact Nat.zero_le _, ?_⟩
    rcases check_cases h with ⟨_, _, h3, _⟩ | ⟨_, _, h3, _⟩ | ⟨_, _, h3, _⟩
    · rw [h3]; exact Nat.zero_le _
    · simp [symbolS] at h3; omega
    · simp [plainS] at h3; omega
  · simp only [Bool.and_eq_true, decide_eq_true_eq] at h
    have h1 := h.1
    simp [varS, refWordS] at h1
    exact ⟨by omega, by rw [h.2]; exact Nat.zero_le _⟩
theorem atomOk_len {a : Atm} (h : atomOk a = true) : a.n.length ≤ 24 ∧ a.a.length ≤ 5 ∧ ∀ t ∈ a.a, t.v.length ≤ 24 ∧ t.x.s.length ≤ 60 := by
  unfold atomOk at h
  simp only [Bool.and_eq_true, decide_eq_true_eq, List.all_eq_true] at h
  have hn := nameS_word h.1.1
  simp [refWordS] at hn
  exact ⟨by omega, h.1.2, fun t ht => termOk_len (h.2 t ht)⟩
theorem dep_all : ∀ (l : List Stp) (d n : Nat), depGo d l = some n → ∀ o ∈ l, stpOk o = true
  | [], _, _, _, o, ho => by cases ho
  | x :: r, d, n, h, o, ho => by
    simp only [depGo] at h
    split at h
    · rename_i hx
      rcases List.mem_cons.1 ho with rfl | ho
      · exact hx
      · split at h
        · exact dep_all r _ n h o ho
        · split at h
          · cases h
          · exact dep_all r _ n h o ho
    · cases h
theorem stpOk_len {o : Stp} (h : stpOk o = true) : o.v.length ≤ 24 ∧ o.x.s.length ≤ 60 := by
  by_cases hk : o.k ≤ 2
  · exact termOk_len (stpOk_push h hk).1
  · rw [(stpOk_op h hk).2]; exact ⟨Nat.zero_le _, Nat.zero_le _⟩
theorem exprOk_len {l : List Stp} (h : exprOk l = true) : l.length ≤ 15 ∧ ∀ o ∈ l, o.v.length ≤ 24 ∧ o.x.s.length ≤ 60 := by
  unfold exprOk at h
  simp only [Bool.and_eq_true, decide_eq_true_eq] at h
  exact ⟨h.1.2, fun o ho => stpOk_len (dep_all l 0 1 h.2 o ho)⟩
/-- the tables of AtomsBad -/
def badT : List Bs := [[], [80], [110, 111, 116], [112, 40], [112, 40, 41], [112, 40, 88], [112, 40, 88, 32, 89, 41], [112, 40, 88, 44, 41], [112, 40, 88, 44, 32, 46, 41], [49], [112, 40, 88, 93]]
def badN : List Int := [0, 0, 0, 2, 2, 3, 3, 4, 4, 0, 3]
theorem bad_all : ((List.range 11).all fun k => decide ((badT.getD k []).length ≤ 20000) && decide (errR (badT.getD k []) = 0) && decide ((readA (toksR (badT.getD k [])) 0).2.2 = 7) && decide (((readA (toksR (badT.getD k [])) 0).2.1 : Int) = badN.getD k 0) && decide ((readA (toksR (badT.getD k [])) 0).1 = zeroA) && decide ((parseA (badT.getD k [])).2 = 7)) = true := by decide +kernel
end Go.PV
namespace Go.PV
open Go
/-! law 14: small things -/
def varGo (acc : List Bs) (t : Trm) : List Bs := if t.v ≠ [] ∧ t.v ∉ acc then acc ++ [t.v] else acc
def varsS (l : List Trm) : List Bs := l.foldl varGo []
theorem varGo_ne {acc : List Bs} (h : acc ≠ []) (t : Trm) : varGo acc t ≠ [] := by
  unfold varGo; split
  · simp
  · exact h
theorem vars_ne : ∀ (l : List Trm) {acc : List Bs}, acc ≠ [] → l.foldl varGo acc ≠ []
  | [], _, h => h
  | t :: r, _, h => vars_ne r (varGo_ne h t)
theorem vars_free (a : Atm) : decide (0 < (varsS a.a).length) = !free a := by
  obtain ⟨n, l⟩ := a
  unfold free varsS
  dsimp only
  induction l with
  | nil => rfl
  | cons t r ih =>
    rw [List.foldl_cons, List.all_cons]
    by_cases ht : t.v = []
    · have e : varGo [] t = [] := by unfold varGo; rw [if_neg (fun h => h.1 ht)]
      rw [e, ih, decide_eq_true ht, Bool.true_and]
    · have e : varGo [] t = [t.v] := by unfold varGo; rw [if_pos ⟨ht, by simp⟩]; rfl
      rw [e, decide_eq_false ht, Bool.false_and, Bool.not_false, decide_eq_true_iff]
      exact List.length_pos_iff.2 (vars_ne r (by simp))
theorem foldl_snoc {α β : Type} (f : β → α → β) (b : β) (l : List α) {k : Nat} (h : k < l.length) : (l.take (k + 1)).foldl f b = f ((l.take k).foldl f b) l[k] := by
  rw [← List.take_append_getElem h, List.foldl_append]; rfl
theorem factT_nil {f : Fct} (h : f.a = []) : factT f = f.n := atomT_nil (a := f.at) (by unfold Fct.at; rw [h]; rfl)
theorem factT_join {f : Fct} (h : f.a ≠ []) : f.n ++ [40] ++ Lib.join (f.a.map textV) [44, 32] ++ [41] = factT f := by
  have := atomT_join (a := f.at) (by unfold Fct.at; simp [h])
  rw [← factT] at this
  rw [← this]
  unfold Fct.at
  rw [List.map_map]
  rfl
theorem flatMap_snoc' {α : Type} (f : α → Bs) (l : List α) {k : Nat} (h : k < l.length) : (l.take (k + 1)).flatMap f = (l.take k).flatMap f ++ f l[k] := by
  rw [← List.take_append_getElem h, List.flatMap_append]; simp
theorem traceT_len {l : List Fct} (h : l.all factOk = true) : (traceT l).length ≤ 702 * l.length := by
  induction l with
  | nil => exact Nat.le_refl _
  | cons f r ih =>
    rw [List.all_cons, Bool.and_eq_true] at h
    have h1 := ih h.2
    have h2 := factT_len h.1
    simp only [traceT, List.flatMap_cons, List.length_append, List.length_cons, List.length_nil] at h1 ⊢
    omega
def fctH (f : Fct) : Bool := decide (200 < f.n.length) || decide (20 < f.a.length) || f.a.any fun v => decide (200 < v.s.length)
def fctsH (l : List Fct) : Bool := decide (250 < l.length) || l.any fctH
def fctB (f : Fct) : Prop := f.n.length ≤ 1000000 ∧ f.a.length ≤ 1000000 ∧ ∀ v ∈ f.a, v.s.length ≤ 1000000
theorem fctsH_B {l : List Fct} (h : fctsH l = false) : l.length ≤ 250 ∧ ∀ f ∈ l, fctB f := by
  unfold fctsH fctH at h
  simp at h
  obtain ⟨h1, h2⟩ := h
  refine ⟨h1, fun f hf => ?_⟩
  obtain ⟨⟨h3, h4⟩, h5⟩ := h2 f hf
  exact ⟨by omega, by omega, fun v hv => by have := h5 v hv; omega⟩
theorem check_len {v : Val} (h : checkS v = true) : v.s.length ≤ 60 := by
  rcases check_cases h with ⟨_, _, h3, _⟩ | ⟨_, _, h3, _⟩ | ⟨_, _, h3, _⟩
  · rw [h3]; exact Nat.zero_le _
  · simp [symbolS] at h3; omega
  · simp [plainS] at h3; omega
theorem factOk_B {f : Fct} (h : factOk f = true) : fctB f := by
  unfold factOk at h
  simp only [Bool.and_eq_true, decide_eq_true_eq, List.all_eq_true] at h
  have hn := nameS_word h.1.1
  simp [refWordS] at hn
  exact ⟨by omega, by omega, fun v hv => by have := check_len (h.2 v hv); omega⟩
end Go.PV
namespace Go.PV
open Go
/-! law 14: traces, written and read -/
theorem eventS_back {l : List Tok} {i : Nat} {f : Fct} {b : Bs} {m : List KT} (h : factOk f = true) (hr : (l.drop i).map kt = (atomK b f.at).map (·.2) ++ (5, [46]) :: m) : eventS l i = (f, i + (atomK b f.at).length + 1, 0) := by
  have e := readA_back (l := l) (i := i) (a := f.at) (b := b) (m := (5, [46]) :: m) (by rw [at_ok]; exact h) hr (fun _ => by simp)
  have hg : ∃ t, l[i + (atomK b f.at).length]? = some t ∧ kt t = (5, [46]) := by
    have h1 : ((l.drop i).map kt)[(atomK b f.at).length]? = some (5, [46]) := by
      rw [hr, List.getElem?_append_right (by simp)]; simp
    rw [List.getElem?_map, List.getElem?_drop, Option.map_eq_some_iff] at h1
    exact h1
  obtain ⟨t, ht, hk⟩ := hg
  simp only [kt, Prod.mk.injEq] at hk
  unfold eventS
  rw [e]
  dsimp only
  rw [if_neg (by simp), at_free, if_neg (by simp), ht]
  dsimp only
  rw [if_pos hk, at_gr]
theorem rest_add {l : List Tok} {i : Nat} {x m : List KT} (h : (l.drop i).map kt = x ++ m) : (l.drop (i + x.length)).map kt = m := by
  rw [← List.drop_drop, List.map_drop, h, List.drop_left]
theorem traceGo_back : ∀ (fs : List Fct) (l : List Tok) (b : Bs) (i f : Nat), fs.all factOk = true → (l.drop i).map kt = (traceK b fs).map (·.2) → fs.length ≤ f → traceGo l f i = (fs, none) ∧ traceAt l fs.length i = i + (traceK b fs).length
  | [], l, b, i, f, _, hr, _ => by
    have hd : l.drop i = [] := by simpa [traceK] using hr
    have hi := List.drop_eq_nil_iff.1 hd
    refine ⟨?_, rfl⟩
    cases f with
    | zero => rfl
    | succ f => rw [traceGo, if_neg (by omega)]
  | g :: r, l, b, i, f, hk, hr, hf => by
    rw [List.all_cons, Bool.and_eq_true] at hk
    obtain ⟨f, rfl⟩ : ∃ f', f = f' + 1 := ⟨f - 1, by simp at hf; omega⟩
    have hr2 : (l.drop i).map kt = (atomK b g.at).map (·.2) ++ (5, [46]) :: (traceK [10] r).map (·.2) := by rw [hr, traceK]; simp
    have e := eventS_back hk.1 hr2
    have hi : i < l.length := by
      rcases Nat.lt_or_ge i l.length with h | h
      · exact h
      · rw [List.drop_eq_nil_iff.2 h] at hr2; simp at hr2
    have hr3 : (l.drop (i + (atomK b g.at).length + 1)).map kt = (traceK [10] r).map (·.2) := by
      have := rest_add (x := (atomK b g.at).map (·.2) ++ [(5, [46])]) (m := (traceK [10] r).map (·.2)) (by rw [hr2]; simp)
      simpa [Nat.add_assoc] using this
    obtain ⟨i1, i2⟩ := traceGo_back r l [10] _ f hk.2 hr3 (by simp at hf; omega)
    rw [traceGo, if_pos hi, e]
    dsimp only
    rw [if_pos rfl, i1]
    refine ⟨rfl, ?_⟩
    rw [List.length_cons, traceAt, e]
    dsimp only
    rw [i2, traceK, List.length_append, List.length_cons]; omega
/-- the signs of a trace's text -/
theorem toks_trace {l : List Fct} (h : l.all factOk = true) : errR (traceT l) = 0 ∧ (toksR (traceT l)).map kt = (traceK [] l).map (·.2) ∧ toksR (traceT l) = posL (traceT l) 0 (traceK [] l) := by
  by_cases hl : l = []
  · subst hl; exact ⟨rfl, rfl, rfl⟩
  · have hw := wov_trace l [] [10] h rfl rfl
    obtain ⟨h1, h2, _⟩ := wovK_R hw rfl
    rw [weave_trace l [] hl, List.nil_append] at h1 h2
    exact ⟨h2, by rw [h1, posL_kt], h1⟩
theorem traceK_len : ∀ (l : List Fct) (b : Bs), l.length ≤ (traceK b l).length
  | [], b => Nat.zero_le _
  | f :: r, b => by have := traceK_len r [10]; rw [traceK, List.length_append, List.length_cons, List.length_cons]; omega
theorem parse_trace {l : List Fct} (h : l.all factOk = true) : parseT (traceT l) = if 200 < l.length then ([], placeT (toksR (traceT l)) (traceAt (toksR (traceT l)) 200 0), 2) else (l, (0, 0), 0) := by
  obtain ⟨h1, h2, _⟩ := toks_trace h
  have hlen : (toksR (traceT l)).length = (traceK [] l).length := by have := congrArg List.length h2; simpa using this
  have hb := traceGo_back l (toksR (traceT l)) [] 0 (toksR (traceT l)).length h (by rw [List.drop_zero]; exact h2) (by rw [hlen]; exact traceK_len l [])
  unfold parseT
  rw [if_pos h1]
  dsimp only
  rw [hb.1]
theorem traceGo_ok (l : List Tok) : ∀ (f i : Nat), (∀ x ∈ (traceGo l f i).1, factOk x = true) ∧ ∀ n, (traceGo l f i).2 = some n → i ≤ l.length → n ≤ l.length ∧ 0 < l.length
  | 0, i => ⟨fun x hx => by simp [traceGo] at hx, fun n h => by simp [traceGo] at h⟩
  | f + 1, i => by
    rw [traceGo]
    split
    · rename_i hi
      have hp := eventS_place (l := l) (i := i) (by omega)
      dsimp only
      split
      · rename_i h0
        obtain ⟨e1, e2, e3⟩ := eventS_ok h0
        obtain ⟨i1, i2⟩ := traceGo_ok l f (eventS l i).2.1
        refine ⟨fun x hx => ?_, fun n hn _ => i2 n hn hp.2.1⟩
        rcases List.mem_cons.1 hx with rfl | hx
        · exact e1
        · exact i1 x hx
      · refine ⟨fun x hx => by simp at hx, fun n hn _ => ?_⟩
        simp only [Option.some.injEq] at hn
        exact ⟨by omega, by omega⟩
    · exact ⟨fun x hx => by simp at hx, fun n hn => by simp at hn⟩
/-- places in a text -/
theorem toks_pos (s : Bs) : ∀ t ∈ toksR s, 1 ≤ t.p.1 ∧ 1 ≤ t.p.2 := by
  have go : ∀ (l : List Tok) (lo : Nat), Chain s lo l → ∀ t ∈ l, 1 ≤ t.p.1 ∧ 1 ≤ t.p.2 := by
    intro l
    induction l with
    | nil => intro lo _ t ht; cases ht
    | cons u l ih =>
      rintro lo ⟨i, h1, h2, h3, h4, h5, h6⟩ t ht
      rcases List.mem_cons.1 ht with rfl | ht
      · have := posS_le s i (by omega)
        rw [h4]; exact ⟨this.1, this.2.2.1⟩
      · exact ih _ h6 t ht
  exact go _ 0 (chain_R s)
theorem placeT_pos {l : List Tok} (h : ∀ t ∈ l, 1 ≤ t.p.1 ∧ 1 ≤ t.p.2) (hl : 0 < l.length) (n : Nat) : 1 ≤ (placeT l n).1 ∧ 1 ≤ (placeT l n).2 := by
  unfold placeT
  split
  · rename_i t ht; exact h t (List.mem_of_getElem? ht)
  · have hk : l.length - 1 < l.length := by omega
    rw [List.getLast?_eq_getElem?, List.getElem?_eq_getElem hk]
    have := h _ (List.getElem_mem hk)
    dsimp only; omega
theorem parseT_cases (s : Bs) : ((parseT s).2.2 = 0 ∧ (parseT s).2.1 = (0, 0) ∧ traceOk (parseT s).1 = 0) ∨ ((parseT s).2.2 ≠ 0 ∧ (parseT s).1 = [] ∧ 1 ≤ (parseT s).2.1.1 ∧ 1 ≤ (parseT s).2.1.2) := by
  unfold parseT
  by_cases he : errR s = 0
  · rw [if_pos he]
    dsimp only
    obtain ⟨g1, g2⟩ := traceGo_ok (toksR s) (toksR s).length 0
    cases hx : (traceGo (toksR s) (toksR s).length 0).2 with
    | some n =>
      obtain ⟨_, hl⟩ := g2 n hx (Nat.zero_le _)
      have := placeT_pos (toks_pos s) hl n
      exact .inr ⟨by dsimp only; omega, rfl, this.1, this.2⟩
    | none =>
      dsimp only
      by_cases hq : 200 < (traceGo (toksR s) (toksR s).length 0).1.length
      · rw [if_pos hq]
        have hl : 0 < (toksR s).length := by
          rcases Nat.eq_zero_or_pos (toksR s).length with h | h
          · rw [h] at hq; simp [traceGo] at hq
          · exact h
        have := placeT_pos (toks_pos s) hl (traceAt (toksR s) 200 0)
        exact .inr ⟨by dsimp only; omega, rfl, this.1, this.2⟩
      · rw [if_neg hq]
        refine .inl ⟨rfl, rfl, ?_⟩
        unfold traceOk
        rw [if_neg hq, if_pos (List.all_eq_true.2 g1)]
  · rw [if_neg he]
    rcases errR_cases s with h | ⟨h1, _, k, hk, hp⟩
    · exact absurd h he
    · have := posS_le s k (by omega)
      exact .inr ⟨he, rfl, by dsimp only; rw [hp]; omega, by dsimp only; rw [hp]; omega⟩
/-! how long a trace's text can be that is read of a text -/
def ln (l : List Tok) (i : Nat) : Nat := lens (l.take i)
theorem ln_succ {l : List Tok} {i : Nat} (h : i < l.length) : ln l (i + 1) = ln l i + l[i].t.length := by
  unfold ln lens; rw [← List.take_append_getElem h, List.map_append, List.sum_append]; simp
theorem ln_le (l : List Tok) (i : Nat) : ln l i ≤ lens l := by
  unfold ln lens
  conv => rhs; rw [← List.take_append_drop i l]
  rw [List.map_append, List.sum_append]; omega
theorem parse_len {t : Bs} {v : Val} (h : parseS t = some v) : (textV v).length ≤ t.length := by rw [(parse_some h).2]; exact Nat.le_refl _
theorem dec_len (u : Nat) : 1 ≤ (Lib.decDigits u).length := by
  obtain ⟨c, r, e, _⟩ := dec_cons u; rw [e]; simp
theorem number_len {t : Bs} {v : Val} (h : numberS t = some v) : (textV v).length ≤ t.length := by
  unfold numberS at h
  have hrl : (numRest t).length + (if hasP t [45] then 1 else 0) = t.length := by
    unfold numRest
    split
    · rename_i hp
      have := hasP_len hp
      rw [List.length_drop]; simp only [List.length_cons, List.length_nil] at this; omega
    · rfl
  split at h
  · cases h
  · rename_i h0
    split at h
    · cases h
      have : numRest t ≠ [] := fun e => h0 (.inl e)
      have := List.length_pos_iff.2 this
      have e : textV ⟨1, 0, []⟩ = [48] := by decide +kernel
      rw [e]; simp only [List.length_cons, List.length_nil]; omega
    · have ht : (trim0 (numRest t)).length ≤ (numRest t).length := by unfold trim0; exact (List.dropWhile_suffix _).length_le
      have := parse_len h
      split at this
      · rename_i hp; rw [if_pos hp] at hrl; simp only [List.length_cons] at this; omega
      · omega
theorem value_len {x : KT} {t : Trm} (h : valueS x = some t) : (termT t).length ≤ x.2.length := by
  unfold valueS at h
  split at h
  · split at h
    · rename_i hv
      cases h
      unfold termT; rw [if_neg (varS_ne hv)]; exact Nat.le_refl _
    · cases h
  · split at h
    · rw [Option.map_eq_some_iff] at h
      obtain ⟨v, h, rfl⟩ := h
      unfold termT; rw [if_pos rfl]; exact number_len h
    · split at h
      · rename_i v hv
        split at h
        · cases h
          unfold termT; rw [if_pos rfl]; exact parse_len hv
        · cases h
      · cases h
namespace Rd
theorem cur_get {r : Rd} {x : KT} (h : r.cur = some x) : ∃ hi : r.i < r.l.length, kt r.l[r.i] = x := by
  have hi := cur_lt h
  unfold cur at h
  rw [List.getElem?_eq_getElem hi] at h
  exact ⟨hi, by simpa using h⟩
theorem term_ln {r : Rd} (h : r.term.2.isOpen = true) : ln r.l r.i + (termT r.term.1).length ≤ ln r.l r.term.2.i := by
  obtain ⟨h1, h2, h3, h4⟩ := term_open h
  rw [h3]
  show _ ≤ ln r.l (r.i + 1)
  rw [ln_succ h4]
  unfold term at h ⊢
  rw [if_pos h1] at h ⊢
  split at h
  · rename_i t ht
    rw [Option.bind_eq_some_iff] at ht
    obtain ⟨x, hx, hv⟩ := ht
    obtain ⟨hi, e⟩ := cur_get hx
    have := value_len hv
    rw [← e] at this
    have : (termT t).length ≤ r.l[r.i].t.length := this
    show ln r.l r.i + (termT t).length ≤ _
    omega
  · simp [fail, isOpen] at h
theorem name_ln {r : Rd} (h : r.name.2.isOpen = true) : ln r.l r.i + r.name.1.length ≤ ln r.l r.name.2.i := by
  obtain ⟨h1, h2, h3, h4⟩ := name_open h
  rw [h3]
  show _ ≤ ln r.l (r.i + 1)
  rw [ln_succ h4]
  unfold name at h ⊢
  rw [if_pos h1] at h ⊢
  split at h
  · rename_i x hx
    obtain ⟨hi, e⟩ := cur_get hx
    split at h
    · rename_i hc
      rw [if_pos hc]
      have : x.2 = r.l[r.i].t := by rw [← e]
      show ln r.l r.i + x.2.length ≤ _
      rw [this]; omega
    · simp [fail, isOpen] at h
  · simp [fail, isOpen] at h
theorem see_ln {r : Rd} {k : Int} {t : Bs} (h : r.see k t = true) : ln r.l (r.i + 1) = ln r.l r.i + t.length := by
  obtain ⟨hi, e⟩ := cur_get (see_open h).2
  rw [ln_succ hi]
  have : r.l[r.i].t = t := congrArg Prod.snd e
  rw [this]
theorem want_ln {r : Rd} {k : Int} {t : Bs} (h : (r.want k t).isOpen = true) : ln r.l (r.want k t).i = ln r.l r.i + t.length := by
  unfold want at h ⊢
  split at h
  · rename_i hs; rw [if_pos hs]; exact see_ln hs
  · split at h
    · simp [fail, isOpen] at h
    · rename_i ho; exact absurd h ho
theorem args_ln : ∀ (f : Nat) (r : Rd), ((args f r).2.want 5 [41]).isOpen = true → 2 * ln r.l r.i + (weaveK (tailK (args f r).1)).length + 1 ≤ 2 * ln r.l ((args f r).2.want 5 [41]).i
  | 0, r, h => by
    have := want_ln h
    simp only [args, tailK, weaveK, List.length_append, List.length_cons, List.length_nil] at this ⊢; omega
  | f + 1, r, h => by
    unfold args at h ⊢
    split at h
    · rename_i hs
      rw [if_pos hs]
      dsimp only at h ⊢
      have ih := args_ln f _ h
      have hta := (args_open f _ (want_open h).1).1
      have ht := term_ln hta
      have h1 := see_ln hs
      have hl := (term_l r.step).1
      have hl2 : r.step.l = r.l := rfl
      rw [hl, hl2] at ih
      rw [hl2] at ht
      have h2 : ln r.l r.step.i = ln r.l (r.i + 1) := rfl
      simp only [tailK, weaveK, termK_T, List.length_append, List.length_cons, List.length_nil] at h1 ⊢
      omega
    · rename_i hs
      rw [if_neg hs]
      have := want_ln h
      simp only [tailK, weaveK, List.length_append, List.length_cons, List.length_nil] at this ⊢; omega
theorem weave_take5 : ∀ (l : List Trm) (n : Nat), (weaveK (tailK (l.take n))).length ≤ (weaveK (tailK l)).length
  | l, 0 => by
    cases l <;> simp [tailK, weaveK]
  | [], n + 1 => by simp
  | t :: r, n + 1 => by
    have := weave_take5 r n
    simp only [List.take_succ_cons, tailK, weaveK, List.length_append] at this ⊢; omega
theorem atom_ln {r : Rd} (h : r.atom.2.isOpen = true) : 2 * ln r.l r.i + (atomT r.atom.1).length ≤ 2 * ln r.l r.atom.2.i := by
  cases hs : r.name.2.see 5 [40] with
  | false =>
    rw [atom_no hs] at h ⊢
    have := name_ln h
    rw [atomT_nil rfl]; dsimp only; omega
  | true =>
    rw [atom_yes hs] at h ⊢
    have hno := (see_open hs).1
    have h1 := name_ln hno
    have hl := (name_l r).1
    have hl1 := (term_l r.name.2.step).1
    have hw : ((args r.name.2.l.length r.name.2.step.term.2).2.want 5 [41]).isOpen = true := by
      split at h
      · exact h
      · exact h
    have h2 := args_ln _ _ hw
    have h3 := term_ln (args_open _ _ (want_open hw).1).1
    have h4 := see_ln hs
    have e1 : r.name.2.step.l = r.l := hl
    rw [hl1, e1] at h2
    rw [e1] at h3
    rw [hl] at h4
    have h5 := weave_take5 (args r.name.2.l.length r.name.2.step.term.2).1 4
    have e2 : ln r.l r.name.2.step.i = ln r.l (r.name.2.i + 1) := rfl
    have key : 2 * ln r.l r.i + (atomT ⟨r.name.1, (r.name.2.step.term.1 :: (args r.name.2.l.length r.name.2.step.term.2).1).take 5⟩).length ≤ 2 * ln r.l ((args r.name.2.l.length r.name.2.step.term.2).2.want 5 [41]).i := by
      unfold atomT atomK argsK
      simp only [List.take_succ_cons, weaveK, termK_T, List.length_append, List.length_cons, List.length_nil] at h4 ⊢
      omega
    dsimp only
    split <;> exact key
end Rd
theorem event_ln {l : List Tok} {i : Nat} (h : (eventS l i).2.2 = 0) : 2 * ln l i + (factT (eventS l i).1).length + 2 ≤ 2 * ln l (eventS l i).2.1 := by
  unfold eventS at *
  dsimp only at h ⊢
  by_cases h0 : (readA l i).2.2 = 0
  · rw [if_neg (by omega)] at h ⊢
    cases hf : free (readA l i).1 with
    | false => rw [hf, if_pos rfl] at h; cases h
    | true =>
      rw [hf, if_neg (by simp)] at h
      rw [if_neg (by simp)]
      cases hg : l[(readA l i).2.1]? with
      | none => rw [hg] at h; cases h
      | some t =>
        rw [hg] at h
        dsimp only at h ⊢
        obtain ⟨hlt, hte⟩ := List.getElem?_eq_some_iff.1 hg
        split at h
        · rename_i ht
          rw [if_pos ht]
          dsimp only
          rw [ln_succ hlt, hte, ht.2]
          have e : factT (readA l i).1.gr = atomT (readA l i).1 := by unfold factT; rw [gr_at hf]
          rw [e]
          have key : 2 * ln l i + (atomT (readA l i).1).length ≤ 2 * ln l (readA l i).2.1 := by
            unfold readA at h0 ⊢
            dsimp only at h0 ⊢
            obtain ⟨h1, h2, h3⟩ := endE_0 h0
            rw [if_pos h0, h3]
            exact Rd.atom_ln h1
          simp only [List.length_cons, List.length_nil]; omega
        · cases h
  · rw [if_pos h0] at h; cases h
theorem traceGo_ln (l : List Tok) : ∀ (f i : Nat), 2 * ln l i + (traceT (traceGo l f i).1).length ≤ 2 * lens l
  | 0, i => by
    have := ln_le l i
    simp only [traceGo, traceT, List.flatMap_nil, List.length_nil]; omega
  | f + 1, i => by
    have := ln_le l i
    rw [traceGo]
    split
    · dsimp only
      split
      · rename_i h0
        have h1 := event_ln h0
        have h2 := traceGo_ln l f (eventS l i).2.1
        simp only [traceT, List.flatMap_cons, List.length_append, List.length_cons, List.length_nil] at h2 ⊢
        omega
      · simp only [traceT, List.flatMap_nil, List.length_nil]; omega
    · simp only [traceT, List.flatMap_nil, List.length_nil]; omega
/-- what is read of a text is no longer than twice as long -/
theorem parseT_len (s : Bs) : (traceT (parseT s).1).length ≤ 2 * s.length := by
  have h1 := chain_lens (chain_R s) (Nat.zero_le _)
  have h2 := traceGo_ln (toksR s) (toksR s).length 0
  have z : (traceT []).length = 0 := rfl
  unfold parseT
  by_cases he : errR s = 0
  · rw [if_pos he]
    dsimp only
    cases (traceGo (toksR s) (toksR s).length 0).2 with
    | some n => dsimp only; rw [z]; exact Nat.zero_le _
    | none =>
      dsimp only
      split
      · dsimp only; rw [z]; exact Nat.zero_le _
      · dsimp only; omega
  · rw [if_neg he]; dsimp only; rw [z]; exact Nat.zero_le _
end Go.PV
namespace Go.PV
open Go
/-! law 14: one event too many -/
theorem traceAt_pre : ∀ (x y : List Fct) (l : List Tok) (b : Bs) (i : Nat), x.all factOk = true → (l.drop i).map kt = (traceK b (x ++ y)).map (·.2) → traceAt l x.length i = i + (traceK b x).length
  | [], y, l, b, i, _, _ => rfl
  | g :: r, y, l, b, i, hk, hr => by
    rw [List.all_cons, Bool.and_eq_true] at hk
    have hr2 : (l.drop i).map kt = (atomK b g.at).map (·.2) ++ (5, [46]) :: (traceK [10] (r ++ y)).map (·.2) := by rw [hr, List.cons_append, traceK]; simp
    have e := eventS_back hk.1 hr2
    have hr3 : (l.drop (i + (atomK b g.at).length + 1)).map kt = (traceK [10] (r ++ y)).map (·.2) := by
      have := rest_add (x := (atomK b g.at).map (·.2) ++ [(5, [46])]) (m := (traceK [10] (r ++ y)).map (·.2)) (by rw [hr2]; simp)
      simpa [Nat.add_assoc] using this
    have ih := traceAt_pre r y l [10] _ hk.2 hr3
    rw [List.length_cons, traceAt, e]
    dsimp only
    rw [ih, traceK, List.length_append, List.length_cons]; omega
theorem traceK_app : ∀ (x y : List Fct) (b : Bs), x ≠ [] → traceK b (x ++ y) = traceK b x ++ traceK [10] y
  | [], _, _, h => absurd rfl h
  | [g], y, b, _ => by simp [traceK]
  | g :: h :: r, y, b, _ => by
    have ih := traceK_app (h :: r) y [10] (by simp)
    have e : traceK b (g :: h :: r) = atomK b g.at ++ ([], (5, [46])) :: traceK [10] (h :: r) := rfl
    rw [List.cons_append, traceK, ih, e]; simp
theorem posL_app (w : Bs) : ∀ (a b : List (Bs × KT)) (i : Nat), posL w i (a ++ b) = posL w i a ++ posL w (i + (weaveK a).length) b
  | [], b, i => by simp [posL, weaveK]
  | (x, t) :: r, b, i => by
    simp only [List.cons_append, posL, weaveK, posL_app w r b, List.length_append]
    rw [Nat.add_assoc, Nat.add_assoc, Nat.add_assoc]
theorem traceT_app (x y : List Fct) : traceT (x ++ y) = traceT x ++ traceT y := List.flatMap_append
/-- where the first event behind some begins -/
theorem place_app {x y : List Fct} (hx : x ≠ []) (hy : y ≠ []) (h : (x ++ y).all factOk = true) : placeT (toksR (traceT (x ++ y))) (traceAt (toksR (traceT (x ++ y))) x.length 0) = posS (traceT x) := by
  obtain ⟨_, h2, h3⟩ := toks_trace h
  have hxo : x.all factOk = true := by rw [List.all_append, Bool.and_eq_true] at h; exact h.1
  have ha := traceAt_pre x y (toksR (traceT (x ++ y))) [] 0 hxo (by rw [List.drop_zero]; exact h2)
  rw [ha, Nat.zero_add, h3, traceK_app x y [] hx, posL_app]
  obtain ⟨g, r, rfl⟩ := List.exists_cons_of_ne_nil hy
  have hl : (posL (traceT (x ++ g :: r)) 0 (traceK [] x)).length = (traceK [] x).length := posL_len _ _ _
  unfold placeT
  rw [List.getElem?_append_right (by rw [hl]; exact Nat.le_refl _), hl, Nat.sub_self]
  have e : ∃ m, traceK [10] (g :: r) = ([10], (1, g.n)) :: m := ⟨_, rfl⟩
  obtain ⟨m, e⟩ := e
  rw [e]
  have hw := weave_trace x [] hx
  have hwl := congrArg List.length hw
  simp only [List.nil_append, List.length_append, List.length_cons, List.length_nil] at hwl
  show posS ((traceT (x ++ g :: r)).take (0 + (weaveK (traceK [] x)).length + 1)) = _
  rw [traceT_app, Nat.zero_add, hwl, List.take_left]
def pF : Fct := ⟨[112], []⟩
def pN (m : Nat) : List Fct := List.replicate m pF
theorem pN_ok (m : Nat) : (pN m).all factOk = true := List.all_eq_true.2 fun x hx => by
  rw [List.eq_of_mem_replicate hx]; decide +kernel
theorem pN_succ (m : Nat) : traceT (pN (m + 1)) = traceT (pN m) ++ [112, 46, 10] := by
  have : pN (m + 1) = pN m ++ [pF] := List.replicate_succ'
  rw [this, traceT_app]; rfl
theorem pN_len (m : Nat) : (traceT (pN m)).length = 3 * m := by
  induction m with
  | zero => rfl
  | succ m ih => rw [pN_succ, List.length_append, ih]; simp only [List.length_cons, List.length_nil]; omega
theorem posS_200 : posS (traceT (pN 200)) = (201, 1) := by decide +kernel
theorem parse_many (n : Nat) (h : 1 ≤ n) : parseT (traceT (pN (200 + n))) = ([], (201, 1), 2) := by
  have e : pN (200 + n) = pN 200 ++ pN n := (List.replicate_append_replicate).symm
  rw [parse_trace (pN_ok _), if_pos (by unfold pN; rw [List.length_replicate]; omega)]
  have hx : pN 200 ≠ [] := by decide
  have hy : pN n ≠ [] := by
    obtain ⟨m, rfl⟩ : ∃ m, n = m + 1 := ⟨n - 1, by omega⟩
    simp [pN, List.replicate_succ]
  have hl : (pN 200).length = 200 := List.length_replicate
  have hp := place_app hx hy (by rw [← e]; exact pN_ok _)
  rw [hl, ← e, posS_200] at hp
  rw [hp]
end Go.PV
namespace Go.PV
open Go
/-! law 14: a line ahead of a text -/
def upP (p : Int × Int) : Int × Int := (p.1 + 1, p.2)
def upT (t : Tok) : Tok := ⟨t.k, t.t, upP t.p⟩
theorem kt_up (t : Tok) : kt (upT t) = kt t := rfl
namespace Rd
def mv (pre : List Tok) (r : Rd) : Rd := ⟨pre ++ r.l.map upT, pre.length + r.i, r.bad, r.over, r.wrong⟩
variable (pre : List Tok)
theorem mv_cur (r : Rd) : (r.mv pre).cur = r.cur := by
  unfold cur mv
  dsimp only
  rw [List.getElem?_append_right (by omega), Nat.add_sub_cancel_left, List.getElem?_map]
  cases r.l[r.i]? <;> rfl
theorem mv_open (r : Rd) : (r.mv pre).isOpen = r.isOpen := rfl
theorem mv_step (r : Rd) : (r.mv pre).step = r.step.mv pre := rfl
theorem mv_fail (r : Rd) : (r.mv pre).fail = r.fail.mv pre := rfl
theorem mv_see (r : Rd) (k : Int) (t : Bs) : (r.mv pre).see k t = r.see k t := by unfold see; rw [mv_cur, mv_open]
theorem mv_want (r : Rd) (k : Int) (t : Bs) : (r.mv pre).want k t = (r.want k t).mv pre := by
  unfold want
  rw [mv_see, mv_open, mv_step, mv_fail]
  split
  · rfl
  · split <;> rfl
theorem mv_name (r : Rd) : (r.mv pre).name = (r.name.1, r.name.2.mv pre) := by
  unfold name
  rw [mv_cur, mv_open, mv_step, mv_fail]
  split
  · split
    · split <;> rfl
    · rfl
  · rfl
theorem mv_term (r : Rd) : (r.mv pre).term = (r.term.1, r.term.2.mv pre) := by
  unfold term
  rw [mv_cur, mv_open, mv_step, mv_fail]
  split
  · split <;> rfl
  · rfl
theorem mv_args : ∀ (f : Nat) (r : Rd), args f (r.mv pre) = ((args f r).1, (args f r).2.mv pre)
  | 0, r => rfl
  | f + 1, r => by
    rw [args, args, mv_see, mv_step, mv_term]
    dsimp only
    rw [mv_args f]
    split <;> rfl
theorem args_fuel : ∀ (f f' : Nat) (r : Rd), r.l.length ≤ f + r.i → r.l.length ≤ f' + r.i → args f r = args f' r := by
  have no : ∀ {r : Rd}, r.l.length ≤ r.i → r.see 5 [44] = false := fun {r} h => by
    cases hs : r.see 5 [44] with
    | false => rfl
    | true => have := cur_lt (see_open hs).2; omega
  intro f
  induction f with
  | zero =>
    intro f' r h _
    have := no (r := r) (by omega)
    cases f' with
    | zero => rfl
    | succ f' => rw [args, args, this]; rfl
  | succ f ih =>
    intro f' r h h'
    cases f' with
    | zero =>
      have := no (r := r) (by omega)
      rw [args, args, this]; rfl
    | succ f' =>
      have h1 := term_l r.step
      have e : r.step.l = r.l := rfl
      have e2 : r.step.i = r.i + 1 := rfl
      rw [args, args, ih f' r.step.term.2 (by rw [h1.1, e]; omega) (by rw [h1.1, e]; omega)]
theorem mv_brack (r : Rd) : (r.mv pre).brack = (r.brack.1, r.brack.2.mv pre) := by
  unfold brack
  dsimp only
  have h1 := term_l r.step
  have e : r.step.l = r.l := rfl
  rw [mv_step, mv_term]
  dsimp only
  have hl : (r.mv pre).l.length = pre.length + r.l.length := by simp [mv]
  rw [mv_args, hl, args_fuel (pre.length + r.l.length) r.l.length r.step.term.2 (by rw [h1.1, e]; omega) (by rw [h1.1, e]; omega), mv_want]
theorem mv_atom (r : Rd) : (r.mv pre).atom = (r.atom.1, r.atom.2.mv pre) := by
  unfold atom
  dsimp only
  rw [mv_name]
  dsimp only
  rw [mv_see, mv_brack]
  split
  · dsimp only
    split <;> rfl
  · rfl
end Rd
theorem mv_readA (pre l : List Tok) (i : Nat) : readA (pre ++ l.map upT) (pre.length + i) = ((readA l i).1, pre.length + (readA l i).2.1, (readA l i).2.2) := by
  unfold readA
  dsimp only
  have e : rd0 (pre ++ l.map upT) (pre.length + i) = (rd0 l i).mv pre := rfl
  rw [e, Rd.mv_atom]
  generalize (rd0 l i).atom = x
  dsimp only
  have h1 : (x.2.mv pre).endE = x.2.endE := rfl
  rw [h1]
  have h2 : (x.2.mv pre).endI (pre.length + i) = pre.length + x.2.endI i := by
    unfold Rd.endI Rd.mv
    dsimp only
    split
    · simp only [List.length_append, List.length_map]; omega
    · split <;> rfl
  rw [h2]
theorem mv_event (pre l : List Tok) (i : Nat) : eventS (pre ++ l.map upT) (pre.length + i) = ((eventS l i).1, pre.length + (eventS l i).2.1, (eventS l i).2.2) := by
  unfold eventS
  dsimp only
  rw [mv_readA]
  dsimp only
  split
  · rfl
  · split
    · rfl
    · rw [List.getElem?_append_right (by omega), Nat.add_sub_cancel_left, List.getElem?_map]
      cases l[(readA l i).2.1]? with
      | none => rfl
      | some t =>
        simp only [Option.map_some]
        have e : (upT t).k = t.k ∧ (upT t).t = t.t := ⟨rfl, rfl⟩
        rw [e.1, e.2]
        split <;> rfl
theorem mv_go (pre l : List Tok) : ∀ (f i : Nat), traceGo (pre ++ l.map upT) f (pre.length + i) = ((traceGo l f i).1, (traceGo l f i).2.map (pre.length + ·))
  | 0, i => rfl
  | f + 1, i => by
    rw [traceGo, traceGo]
    dsimp only
    rw [mv_event]
    dsimp only
    rw [mv_go pre l f]
    have e : (pre.length + i < (pre ++ l.map upT).length) = (i < l.length) := by simp
    simp only [e]
    split
    · split <;> rfl
    · rfl
theorem go_fuel (l : List Tok) : ∀ (f f' i : Nat), l.length ≤ f + i → l.length ≤ f' + i → traceGo l f i = traceGo l f' i := by
  intro f
  induction f with
  | zero =>
    intro f' i h _
    cases f' with
    | zero => rfl
    | succ f' => rw [traceGo, traceGo, if_neg (by omega)]
  | succ f ih =>
    intro f' i h h'
    cases f' with
    | zero => rw [traceGo, traceGo, if_neg (by omega)]
    | succ f' =>
      rw [traceGo, traceGo]
      dsimp only
      split
      · split
        · rename_i h0
          have := eventS_ok h0
          rw [ih f' _ (by omega) (by omega)]
        · rfl
      · rfl
def okL : Bs := [111, 107, 40, 49, 41, 46, 32, 37, 32, 110, 111, 116, 104, 105, 110, 103, 10]
theorem posS_up (u : Bs) : posS (okL ++ u) = upP (posS u) := by
  have go : ∀ (u : Bs) (p : Int × Int), u.foldl (fun p c => if c.toNat = 10 then (p.1 + 1, 1) else (p.1, p.2 + 1)) (upP p) = upP (u.foldl (fun p c => if c.toNat = 10 then (p.1 + 1, 1) else (p.1, p.2 + 1)) p) := by
    intro u
    induction u with
    | nil => intro p; rfl
    | cons c u ih =>
      intro p
      simp only [List.foldl_cons]
      rw [← ih]
      congr 1
      split <;> rfl
  unfold posS
  rw [List.foldl_append]
  exact go u (1, 1)
theorem toks_fuel (s : Bs) : ∀ (f f' i : Nat), s.length ≤ f + i → s.length ≤ f' + i → toksGo s f i = toksGo s f' i := by
  intro f
  induction f with
  | zero => intro f' i h _; rw [toksGo_end s 0 i (by omega), toksGo_end s f' i (by omega)]
  | succ f ih =>
    intro f' i h h'
    cases f' with
    | zero => rw [toksGo_end s 0 i (by omega), toksGo_end s (f + 1) i (by omega)]
    | succ f' =>
      rw [toksGo, toksGo]
      dsimp only
      split
      · split
        · rename_i h0
          have := nextS_pos h0
          rw [ih f' _ (by omega) (by omega)]
        · rfl
      · rfl
theorem toksGo_up (T : Bs) : ∀ (f i : Nat), toksGo (okL ++ T) f (17 + i) = ((toksGo T f i).1.map upT, (toksGo T f i).2.map upP)
  | 0, i => rfl
  | f + 1, i => by
    have hl : okL.length = 17 := rfl
    have hd : ∀ j, (okL ++ T).drop (17 + j) = T.drop j := fun j => by
      rw [← hl, List.drop_append, List.drop_eq_nil_of_le (by omega), List.nil_append, Nat.add_sub_cancel_left]
    have ht : (okL ++ T).take (17 + i) = okL ++ T.take i := by
      rw [← hl, List.take_append, List.take_of_length_le (by omega), Nat.add_sub_cancel_left]
    have e : (17 + i < (okL ++ T).length) = (i < T.length) := by rw [List.length_append, hl]; simp
    rw [toksGo, toksGo]
    dsimp only
    rw [hd, ht, posS_up]
    simp only [e, Nat.add_assoc, hd]
    rw [← Nat.add_assoc i, toksGo_up T f]
    split
    · split <;> rfl
    · rfl
theorem toksGo_step {s : Bs} {f i k n : Nat} {c : Int} (h : i < s.length) (hn : nextS (s.drop i) = (c, n, true)) (hb : blanksN false (s.drop (i + n)) = k) :
    toksGo s (f + 1) i = (⟨c, (s.drop i).take n, posS (s.take i)⟩ :: (toksGo s f (i + n + k)).1, (toksGo s f (i + n + k)).2) := by
  rw [toksGo, if_pos h]
  dsimp only
  rw [hn]
  dsimp only
  rw [hb, if_pos rfl]
def okTs : List Tok := [⟨1, [111, 107], (1, 1)⟩, ⟨5, [40], (1, 3)⟩, ⟨3, [49], (1, 4)⟩, ⟨5, [41], (1, 5)⟩, ⟨5, [46], (1, 6)⟩]
theorem toks_up (T : Bs) : toksS (okL ++ T) = (okTs ++ (toksS T).1.map upT, (toksS T).2.map upP) := by
  have hl : (okL ++ T).length = T.length + 12 + 5 := by rw [List.length_append]; show 17 + T.length = _; omega
  have h0 : blanksN false (okL ++ T) = 0 := rfl
  have s1 : nextS ((okL ++ T).drop 0) = (1, 2, true) := nextS_end (t := (1, [111, 107])) (r := [40, 49, 41, 46, 32, 37, 32, 110, 111, 116, 104, 105, 110, 103, 10] ++ T) (by unfold Tk; decide +kernel) rfl
  have s2 : nextS ((okL ++ T).drop 2) = (5, 1, true) := nextS_end (t := (5, [40])) (r := [49, 41, 46, 32, 37, 32, 110, 111, 116, 104, 105, 110, 103, 10] ++ T) (by unfold Tk; decide +kernel) rfl
  have s3 : nextS ((okL ++ T).drop 3) = (3, 1, true) := nextS_end (t := (3, [49])) (r := [41, 46, 32, 37, 32, 110, 111, 116, 104, 105, 110, 103, 10] ++ T) (by unfold Tk; decide +kernel) rfl
  have s4 : nextS ((okL ++ T).drop 4) = (5, 1, true) := nextS_end (t := (5, [41])) (r := [46, 32, 37, 32, 110, 111, 116, 104, 105, 110, 103, 10] ++ T) (by unfold Tk; decide +kernel) rfl
  have s5 : nextS ((okL ++ T).drop 5) = (5, 1, true) := nextS_end (t := (5, [46])) (r := [32, 37, 32, 110, 111, 116, 104, 105, 110, 103, 10] ++ T) (by unfold Tk; decide +kernel) rfl
  have b5 : blanksN false ((okL ++ T).drop (5 + 1)) = 11 + blanksN false T := by
    show blanksN false ([32, 37, 32, 110, 111, 116, 104, 105, 110, 103, 10] ++ T) = _
    simp [blanksN, blankB]; omega
  unfold toksS
  rw [hl, h0, toksGo_step (by omega) s1 (k := 0) rfl, toksGo_step (i := 0 + 2 + 0) (by omega) s2 (k := 0) rfl, toksGo_step (i := 0 + 2 + 0 + 1 + 0) (by omega) s3 (k := 0) rfl, toksGo_step (i := 0 + 2 + 0 + 1 + 0 + 1 + 0) (by omega) s4 (k := 0) rfl, toksGo_step (i := 0 + 2 + 0 + 1 + 0 + 1 + 0 + 1 + 0) (by omega) s5 b5]
  have e : 0 + 2 + 0 + 1 + 0 + 1 + 0 + 1 + 0 + 1 + (11 + blanksN false T) = 17 + blanksN false T := by omega
  rw [e, toksGo_up, toks_fuel T (T.length + 12) T.length _ (by omega) (by omega)]
  rfl
theorem hkk : okTs.map kt = (atomK [] (⟨[111, 107], [⟨1, 1, []⟩]⟩ : Fct).at).map (·.2) ++ [(5, [46])] := by decide +kernel
theorem place_up (l : List Tok) (j : Nat) (hne : l ≠ []) : placeT (okTs ++ l.map upT) (5 + j) = upP (placeT l j) := by
  unfold placeT
  rw [List.getElem?_append_right (by show 5 ≤ 5 + j; omega), show 5 + j - okTs.length = j from by show 5 + j - 5 = j; omega, List.getElem?_map]
  cases l[j]? with
  | some t => rfl
  | none =>
    simp only [Option.map_none]
    rw [List.getLast?_append, List.getLast?_map]
    cases hg : l.getLast? with
    | none => exact absurd (List.getLast?_eq_none_iff.1 hg) hne
    | some t => rfl
theorem go_up (l : List Tok) : traceGo (okTs ++ l.map upT) (okTs ++ l.map upT).length 0 = (⟨[111, 107], [⟨1, 1, []⟩]⟩ :: (traceGo l l.length 0).1, (traceGo l l.length 0).2.map (5 + ·)) := by
  have hlen : (okTs ++ l.map upT).length = l.length + 4 + 1 := by rw [List.length_append, List.length_map]; show 5 + l.length = _; omega
  have hev : eventS (okTs ++ l.map upT) 0 = (⟨[111, 107], [⟨1, 1, []⟩]⟩, 5, 0) := by
    have := eventS_back (l := okTs ++ l.map upT) (i := 0) (f := ⟨[111, 107], [⟨1, 1, []⟩]⟩) (b := []) (m := (l.map upT).map kt) (by decide +kernel) (by rw [List.drop_zero, List.map_append, hkk]; simp)
    rw [this]; rfl
  have hm := mv_go okTs l (l.length + 4) 0
  have e5 : okTs.length + 0 = 5 := rfl
  rw [e5] at hm
  rw [hlen, traceGo, if_pos (by omega)]
  dsimp only
  rw [hev]
  dsimp only
  rw [if_pos rfl, hm, go_fuel l (l.length + 4) l.length 0 (by omega) (by omega)]
  rfl
theorem parse_up {T : Bs} {p : Int × Int} {c : Int} (h : parseT T = ([], p, c)) (hc : c = 6 ∨ c = 7) : parseT (okL ++ T) = ([], upP p, c) := by
  have ht := toks_up T
  unfold parseT at h ⊢
  have e1 : errR (okL ++ T) = errR T := by unfold errR; rw [ht]; cases (toksS T).2 <;> rfl
  rw [e1]
  by_cases he : errR T = 0
  · rw [if_pos he] at h ⊢
    have hz : (toksS T).2 = none := by
      unfold errR at he
      cases hh : (toksS T).2 with
      | none => rfl
      | some p => rw [hh] at he; simp at he
    have e2 : toksR (okL ++ T) = okTs ++ (toksR T).map upT := by
      unfold toksR; rw [ht, hz]; rfl
    rw [e2]
    generalize toksR T = l at *
    dsimp only at h ⊢
    rw [go_up]
    cases hn : (traceGo l l.length 0).2 with
    | none =>
      rw [hn] at h
      dsimp only at h
      split at h
      · simp only [Prod.mk.injEq] at h; omega
      · simp only [Prod.mk.injEq] at h; omega
    | some j =>
      rw [hn] at h
      simp only [Prod.mk.injEq] at h
      obtain ⟨_, hp, hc7⟩ := h
      have hne : l ≠ [] := by
        rintro rfl
        rw [show traceGo [] ([] : List Tok).length 0 = ([], none) from rfl] at hn; cases hn
      simp only [Option.map_some]
      show ([], placeT (okTs ++ l.map upT) (5 + j), (7 : Int)) = _
      rw [place_up l j hne, hp, hc7]
  · rw [if_neg he] at h ⊢
    simp only [Prod.mk.injEq] at h
    obtain ⟨_, hp, hc⟩ := h
    have e2 : posR (okL ++ T) = upP (posR T) := by
      unfold posR; rw [ht]
      cases hz : (toksS T).2 with
      | none => exfalso; apply he; unfold errR; rw [hz]; rfl
      | some q => rfl
    rw [e2, hp, hc]
def okN : Nat → Bs
  | 0 => []
  | n + 1 => okN n ++ okL
theorem okN_succ : ∀ n, okN (n + 1) = okL ++ okN n
  | 0 => rfl
  | n + 1 => by
    show okN (n + 1) ++ okL = okL ++ (okN n ++ okL)
    rw [okN_succ n, List.append_assoc]
theorem okN_len : ∀ n, (okN n).length = 17 * n
  | 0 => rfl
  | n + 1 => by rw [okN, List.length_append, okN_len n]; show 17 * n + 17 = _; omega
theorem parse_lines {T : Bs} {p : Int × Int} {c : Int} (h : parseT T = ([], p, c)) (hc : c = 6 ∨ c = 7) : ∀ n : Nat, parseT (okN n ++ T) = ([], (p.1 + n, p.2), c)
  | 0 => by rw [show okN 0 ++ T = T from rfl, h]; simp
  | n + 1 => by
    rw [okN_succ, List.append_assoc, parse_up (parse_lines h hc n) hc]
    unfold upP
    simp only [Prod.mk.injEq, true_and, and_true]
    omega
def badS : List Bs := [[112, 40, 49, 41], [112, 40, 49, 44, 41, 46], [112, 40, 88, 41, 46], [113, 46, 32, 112, 40, 49, 44, 32, 88, 41, 46], [110, 111, 116, 40, 49, 41, 46], [112, 32, 49, 46], [49, 46], [112, 40, 49, 41, 46, 32, 46], [112, 40, 34, 97, 41, 46], [112, 40, 49, 44, 32, 50, 44, 32, 51, 44, 32, 52, 44, 32, 53, 44, 32, 54, 41, 46]]
def lineS : List Int := [1, 0, 0, 0, 0, 0, 0, 0, 0, 0]
def colS : List Int := [1, 5, 1, 4, 1, 3, 1, 7, 3, 1]
def whyS : List Int := [7, 7, 7, 7, 7, 7, 7, 7, 6, 7]
theorem bad_S : ((List.range 10).all fun k => decide ((parseT (badS.getD k [] ++ [10, 114, 46])).1.length = 0) && decide ((parseT (badS.getD k [] ++ [10, 114, 46])).2 = ((1 + lineS.getD k 0, colS.getD k 0), whyS.getD k 0)) && decide (whyS.getD k 0 = 6 ∨ whyS.getD k 0 = 7) && decide ((badS.getD k []).length ≤ 30)) = true := by decide +kernel
end Go.PV
namespace Go.PV
open Go
/-! rules -/
structure Cnd where
  k : Int
  a : Atm
  h : Int
  l : List Stp
  r : List Stp
abbrev Cnd.c (x : Cnd) : List V := [.int .i64 x.k, .str x.a.n, .sl 4 (trmV x.a.a), .int .i64 x.h, .sl 5 (stpV x.l), .sl 5 (stpV x.r)]
abbrev opsV (l : List (List Stp)) : List (List V) := l.map fun x => [.sl 5 (stpV x)]
structure Act where
  k : Int
  n : Bs
  a : List (List Stp)
  w : Int
abbrev Act.c (x : Act) : List V := [.int .i64 x.k, .str x.n, .sl 1 (opsV x.a), .int .i64 x.w]
abbrev cndV (l : List Cnd) : List (List V) := l.map Cnd.c
abbrev actV (l : List Act) : List (List V) := l.map Act.c
structure Rul where
  n : Bs
  p : Int
  c : List Cnd
  a : List Act
abbrev Rul.v (x : Rul) : List V := [.str x.n, .int .i64 x.p, .sl 6 (cndV x.c), .sl 4 (actV x.a)]
instance : DecidableEq Cnd := fun a b => decidable_of_iff (a.k = b.k ∧ a.a = b.a ∧ a.h = b.h ∧ a.l = b.l ∧ a.r = b.r) (by cases a; cases b; simp)
instance : DecidableEq Act := fun a b => decidable_of_iff (a.k = b.k ∧ a.n = b.n ∧ a.a = b.a ∧ a.w = b.w) (by cases a; cases b; simp)
instance : DecidableEq Rul := fun a b => decidable_of_iff (a.n = b.n ∧ a.p = b.p ∧ a.c = b.c ∧ a.a = b.a) (by cases a; cases b; simp)
def guardOk (c : Cnd) : Bool := decide (c.k = 3) && (decide (c.a.n = []) && (decide (c.a.a = []) && (decide (1 ≤ c.h ∧ c.h ≤ 4) && (exprOk c.l && exprOk c.r))))
def condOk (c : Cnd) : Bool := if c.k = 3 then guardOk c else (decide (c.k = 1 ∨ c.k = 2) && (decide (c.h = 0) && (decide (c.l = []) && decide (c.r = [])))) && atomOk c.a
def actOk (m : Int) (x : Act) : Bool :=
  if x.k = 1 then nameS x.n && (decide (x.w = 0) && (decide (x.a.length ≤ 5) && x.a.all exprOk))
  else if x.k = 2 then decide (x.n = []) && (decide (x.a = []) && decide (0 ≤ x.w ∧ x.w < m)) else false
def hasN (l : List Cnd) : Nat := (l.filter fun c => decide (c.k = 1)).length
def headK (l : List Cnd) : Int := match l with | c :: _ => c.k | [] => 0
def ruleOk (r : Rul) : Bool := nameS r.n && decide (-1000 ≤ r.p ∧ r.p ≤ 1000) && decide (1 ≤ r.c.length ∧ r.c.length ≤ 6) && decide (headK r.c = 1) && decide (1 ≤ r.a.length ∧ r.a.length ≤ 6) && r.c.all condOk && r.a.all (actOk (hasN r.c))
def cndB (c : Cnd) : Prop := c.a.n.length ≤ 1000000 ∧ c.a.a.length ≤ 1000000 ∧ (∀ t ∈ c.a.a, t.v.length ≤ 1000000 ∧ t.x.s.length ≤ 1000000) ∧ c.l.length ≤ 1000000 ∧ (∀ o ∈ c.l, o.v.length ≤ 1000000 ∧ o.x.s.length ≤ 1000000) ∧ c.r.length ≤ 1000000 ∧ (∀ o ∈ c.r, o.v.length ≤ 1000000 ∧ o.x.s.length ≤ 1000000)
def actB (x : Act) : Prop := x.n.length ≤ 1000000 ∧ x.a.length ≤ 1000000 ∧ ∀ l ∈ x.a, l.length ≤ 1000000 ∧ ∀ o ∈ l, o.v.length ≤ 1000000 ∧ o.x.s.length ≤ 1000000
def rulB (r : Rul) : Prop := r.n.length ≤ 1000000 ∧ r.c.length ≤ 1000000 ∧ (∀ c ∈ r.c, cndB c) ∧ r.a.length ≤ 1000000 ∧ ∀ x ∈ r.a, actB x
def wayL : List Bs := [[61], [33, 61], [60], [60, 61]]
def wayT (h : Int) : Bs := wayL.getD (h - 1).toNat []
def condT (c : Cnd) : Bs :=
  if c.k = 3 then [91] ++ exprT c.l ++ [32] ++ wayT c.h ++ [32] ++ exprT c.r ++ [93]
  else if c.k = 2 then [110, 111, 116, 32] ++ atomT c.a else atomT c.a
def actT (x : Act) : Bs :=
  if x.k = 2 then [100, 114, 111, 112, 32] ++ Lib.itoa x.w
  else if x.a = [] then [43] ++ x.n else [43] ++ x.n ++ [40] ++ Lib.join (x.a.map exprT) [44, 32] ++ [41]
def ruleT (r : Rul) : Bs := [114, 117, 108, 101, 32] ++ r.n ++ [32] ++ Lib.itoa r.p ++ [58, 32] ++ Lib.join (r.c.map condT) [44, 32] ++ [32, 45, 62, 32] ++ Lib.join (r.a.map actT) [44, 32] ++ [46]
def ruleE (r : Rul) : Int := if ruleOk r then (if 20000 < (ruleT r).length then 2 else 0) else 1
def ruleX (r : Rul) : Bs := if ruleE r = 0 then ruleT r else []
theorem join_le (b : Nat) : ∀ l : List Bs, (∀ x ∈ l, x.length ≤ b) → (Lib.join l [44, 32]).length ≤ (b + 2) * l.length
  | [], _ => by simp [Lib.join_nil]
  | x :: r, h => by
    rw [Lib.join_cons]
    have hx := h x (by simp)
    have : ∀ r : List Bs, (∀ p ∈ r, p.length ≤ b) → (Lib.joinTail [44, 32] r).length ≤ (b + 2) * r.length := fun r => by
      induction r with
      | nil => intro _; simp [Lib.joinTail]
      | cons x r ih =>
        intro hx
        have h1 := ih (fun p hp => hx p (by simp [hp]))
        have h2 := hx x (by simp)
        simp only [Lib.joinTail] at h1 ⊢
        simp only [List.map_cons, List.flatten_cons, List.length_append, List.length_cons, List.length_nil, Nat.mul_succ]
        omega
    have h1 := this r (fun p hp => h p (by simp [hp]))
    simp only [List.length_append, List.length_cons, Nat.mul_succ]
    omega
theorem wayT_len (h : Int) : (wayT h).length ≤ 2 := by
  unfold wayT wayL
  rcases (h - 1).toNat with _ | _ | _ | _ | k <;> simp
theorem condOk_3 {c : Cnd} (h : condOk c = true) (hk : c.k = 3) : c.a = zeroA ∧ 1 ≤ c.h ∧ c.h ≤ 4 ∧ exprOk c.l = true ∧ exprOk c.r = true := by
  unfold condOk at h
  rw [if_pos hk] at h
  unfold guardOk at h
  simp only [Bool.and_eq_true, decide_eq_true_eq] at h
  obtain ⟨_, h1, h2, h3, h4, h5⟩ := h
  obtain ⟨k, ⟨n, a⟩, hh, l, r⟩ := c
  exact ⟨by dsimp only at h1 h2; rw [h1, h2]; rfl, h3.1, h3.2, h4, h5⟩
theorem condOk_n {c : Cnd} (h : condOk c = true) (hk : ¬ c.k = 3) : (c.k = 1 ∨ c.k = 2) ∧ c.h = 0 ∧ c.l = [] ∧ c.r = [] ∧ atomOk c.a = true := by
  unfold condOk at h
  rw [if_neg hk] at h
  simp only [Bool.and_eq_true, decide_eq_true_eq] at h
  exact ⟨h.1.1, h.1.2.1, h.1.2.2.1, h.1.2.2.2, h.2⟩
theorem condT_len {c : Cnd} (h : condOk c = true) : (condT c).length ≤ 4000 := by
  unfold condT
  split
  · rename_i hk
    obtain ⟨_, _, _, h1, h2⟩ := condOk_3 h hk
    have := exprT_len h1
    have := exprT_len h2
    have := wayT_len c.h
    simp only [List.length_append, List.length_cons, List.length_nil]; omega
  · rename_i hk
    obtain ⟨_, _, _, _, h1⟩ := condOk_n h hk
    have := atomT_len h1
    split
    · simp only [List.length_append, List.length_cons, List.length_nil]; omega
    · omega
theorem actOk_1 {m : Int} {x : Act} (h : actOk m x = true) (hk : ¬ x.k = 2) : x.k = 1 ∧ nameS x.n = true ∧ x.w = 0 ∧ x.a.length ≤ 5 ∧ x.a.all exprOk = true := by
  unfold actOk at h
  split at h
  · rename_i h1
    simp only [Bool.and_eq_true, decide_eq_true_eq] at h
    exact ⟨h1, h.1, h.2.1, h.2.2.1, h.2.2.2⟩
  · cases h
theorem actOk_2 {m : Int} {x : Act} (h : actOk m x = true) (hk : x.k = 2) : x.n = [] ∧ x.a = [] ∧ 0 ≤ x.w ∧ x.w < m := by
  unfold actOk at h
  rw [if_neg (by omega), if_pos hk] at h
  simp only [Bool.and_eq_true, decide_eq_true_eq] at h
  exact ⟨h.1, h.2.1, h.2.2.1, h.2.2.2⟩
theorem name_len {s : Bs} (h : nameS s = true) : s.length ≤ 24 := by
  unfold nameS refWordS at h
  simp at h; omega
theorem actT_len {m : Int} {x : Act} (hm : m ≤ 1000) (h : actOk m x = true) : (actT x).length ≤ 10000 := by
  unfold actT
  split
  · rename_i hk
    obtain ⟨_, _, h1, h2⟩ := actOk_2 h hk
    have := itoa_len (n := x.w) (by unfold inR; rw [decide_eq_true_iff]; omega)
    simp only [List.length_append, List.length_cons, List.length_nil]; omega
  · rename_i hk
    obtain ⟨_, h1, _, h3, h4⟩ := actOk_1 h hk
    have := name_len h1
    split
    · simp only [List.length_append, List.length_cons, List.length_nil]; omega
    · have hj := join_le 1950 (x.a.map exprT) (fun p hp => by
        obtain ⟨l, hl, rfl⟩ := List.mem_map.1 hp
        exact exprT_len (List.all_eq_true.1 h4 l hl))
      rw [List.length_map] at hj
      simp only [List.length_append, List.length_cons, List.length_nil]; omega
theorem ruleOk_all {r : Rul} (h : ruleOk r = true) : nameS r.n = true ∧ -1000 ≤ r.p ∧ r.p ≤ 1000 ∧ 1 ≤ r.c.length ∧ r.c.length ≤ 6 ∧ headK r.c = 1 ∧ 1 ≤ r.a.length ∧ r.a.length ≤ 6 ∧ (∀ c ∈ r.c, condOk c = true) ∧ ∀ x ∈ r.a, actOk (hasN r.c) x = true := by
  unfold ruleOk at h
  simp only [Bool.and_eq_true, decide_eq_true_eq, List.all_eq_true] at h
  obtain ⟨⟨⟨⟨⟨⟨h1, h2⟩, h3⟩, h4⟩, h5⟩, h6⟩, h7⟩ := h
  exact ⟨h1, h2.1, h2.2, h3.1, h3.2, h4, h5.1, h5.2, h6, h7⟩
theorem hasN_len (l : List Cnd) : hasN l ≤ l.length := List.length_filter_le _ _
theorem ruleT_len {r : Rul} (h : ruleOk r = true) : (ruleT r).length ≤ 100000 ∧ (Lib.join (r.c.map condT) [44, 32]).length ≤ 30000 ∧ (Lib.join (r.a.map actT) [44, 32]).length ≤ 70000 ∧ (Lib.itoa r.p).length ≤ 20 ∧ r.n.length ≤ 24 := by
  obtain ⟨h1, h2, h3, h4, h5, h6, h7, h8, h9, h10⟩ := ruleOk_all h
  have hn := name_len h1
  have hp := itoa_len (n := r.p) (by unfold inR; rw [decide_eq_true_iff]; omega)
  have hh := hasN_len r.c
  have hc := join_le 4000 (r.c.map condT) (fun p hp => by
    obtain ⟨l, hl, rfl⟩ := List.mem_map.1 hp
    exact condT_len (h9 l hl))
  have ha := join_le 10000 (r.a.map actT) (fun p hp => by
    obtain ⟨l, hl, rfl⟩ := List.mem_map.1 hp
    exact actT_len (by omega) (h10 l hl))
  rw [List.length_map] at hc ha
  refine ⟨?_, by omega, by omega, hp, hn⟩
  unfold ruleT
  simp only [List.length_append, List.length_cons, List.length_nil]; omega
end Go.PV
namespace Go.PV
open Go
/-! the program's reader of rules -/
namespace Rd
def way (r : Rd) : Int × Rd :=
  if r.see 5 [61] then (1, r.step) else if r.see 5 [33, 61] then (2, r.step) else if r.see 5 [60] then (3, r.step) else if r.see 5 [60, 61] then (4, r.step) else (0, if r.isOpen then r.fail else r)
def condR (r : Rd) : Cnd × Rd :=
  if r.see 5 [91] then
    let a := r.step.expr
    let w := a.2.way
    let b := w.2.expr
    (⟨3, zeroA, w.1, a.1, b.1⟩, b.2.want 5 [93])
  else if r.see 1 [110, 111, 116] then let a := r.step.atom; (⟨2, a.1, 0, [], []⟩, a.2)
  else let a := r.atom; (⟨1, a.1, 0, [], []⟩, a.2)
/-- more of them, behind commas -/
def many {α : Type} (g : Rd → α × Rd) : Nat → Rd → List α × Rd
  | 0, r => ([], r)
  | f + 1, r => if r.see 5 [44] then ((g r.step).1 :: (many g f (g r.step).2).1, (many g f (g r.step).2).2) else ([], r)
def back (r : Rd) : Rd := { r with i := r.i - 1, bad := true }
def actR (r : Rd) : Act × Rd :=
  if r.see 1 [100, 114, 111, 112] then
    let x := r.step.num
    (⟨2, [], [], x.1⟩, if x.2.isOpen && decide (x.1 < 0) then x.2.back else x.2)
  else
    let x := (r.want 5 [43]).name
    if x.2.see 5 [40] then
      let a := x.2.step.expr
      let b := many expr r.l.length a.2
      (⟨1, x.1, (a.1 :: b.1).take 6, 0⟩, b.2.want 5 [41])
    else (⟨1, x.1, [], 0⟩, x.2)
def rule (r : Rd) : Rul × Rd :=
  let n := (r.want 1 [114, 117, 108, 101]).name
  let p := n.2.num
  let c := (p.2.want 5 [58]).condR
  let d := many condR r.l.length c.2
  let a := (d.2.want 5 [45, 62]).actR
  let b := many actR r.l.length a.2
  (⟨n.1, p.1, (c.1 :: d.1).take 7, (a.1 :: b.1).take 7⟩, b.2.want 5 [46])
theorem num_up {r : Rd} (h : r.num.2.isOpen = true) : r.num.2.i = r.i + 1 := by
  unfold num at *
  split
  · rename_i ho
    rw [if_pos ho] at h
    split
    · rename_i x hx
      rw [hx] at h
      dsimp only at h
      split
      · rfl
      · rename_i hv; rw [hv] at h; simp [isOpen, fail] at h
    · rename_i hx
      rw [hx] at h; simp [isOpen, fail] at h
  · rename_i ho
    rw [if_neg ho] at h
    exact absurd h ho
theorem way_l (r : Rd) : r.way.2.l = r.l ∧ r.i ≤ r.way.2.i := by
  unfold way
  split
  · exact ⟨rfl, Nat.le_succ _⟩
  · split
    · exact ⟨rfl, Nat.le_succ _⟩
    · split
      · exact ⟨rfl, Nat.le_succ _⟩
      · split
        · exact ⟨rfl, Nat.le_succ _⟩
        · dsimp only
          split
          · exact ⟨rfl, Nat.le_refl _⟩
          · exact ⟨rfl, Nat.le_refl _⟩
theorem condR_l (r : Rd) : r.condR.2.l = r.l ∧ r.i ≤ r.condR.2.i := by
  unfold condR
  split
  · have h1 := expr_l r.step
    have h2 := way_l r.step.expr.2
    have h3 := expr_l r.step.expr.2.way.2
    have h4 := want_l r.step.expr.2.way.2.expr.2 5 [93]
    have e : r.step.l = r.l ∧ r.step.i = r.i + 1 := ⟨rfl, rfl⟩
    dsimp only
    exact ⟨by rw [h4.1, h3.1, h2.1, h1.1, e.1], by omega⟩
  · split
    · have h1 := atom_l r.step
      have e : r.step.l = r.l ∧ r.step.i = r.i + 1 := ⟨rfl, rfl⟩
      dsimp only
      exact ⟨by rw [h1.1, e.1], by omega⟩
    · have h1 := atom_l r
      exact h1
theorem many_l {α : Type} {g : Rd → α × Rd} (hg : ∀ r, (g r).2.l = r.l ∧ r.i ≤ (g r).2.i) : ∀ (f : Nat) (r : Rd), (many g f r).2.l = r.l ∧ r.i ≤ (many g f r).2.i
  | 0, r => ⟨rfl, Nat.le_refl _⟩
  | f + 1, r => by
    rw [many]
    split
    · have h1 := hg r.step
      have h2 := many_l hg f (g r.step).2
      have e : r.step.l = r.l ∧ r.step.i = r.i + 1 := ⟨rfl, rfl⟩
      dsimp only
      exact ⟨by rw [h2.1, h1.1, e.1], by omega⟩
    · exact ⟨rfl, Nat.le_refl _⟩
theorem actR_l (r : Rd) : r.actR.2.l = r.l ∧ r.i ≤ r.actR.2.i := by
  unfold actR
  split
  · have h1 := num_l r.step
    have e : r.step.l = r.l ∧ r.step.i = r.i + 1 := ⟨rfl, rfl⟩
    dsimp only
    split
    · exact ⟨by show r.step.num.2.l = _; rw [h1.1, e.1], by show r.i ≤ r.step.num.2.i - 1; omega⟩
    · exact ⟨by rw [h1.1, e.1], by omega⟩
  · have h0 := want_l r 5 [43]
    have h1 := name_l (r.want 5 [43])
    dsimp only
    split
    · have h2 := expr_l (r.want 5 [43]).name.2.step
      have h3 := many_l expr_l r.l.length (r.want 5 [43]).name.2.step.expr.2
      have h4 := want_l (many expr r.l.length (r.want 5 [43]).name.2.step.expr.2).2 5 [41]
      have e : (r.want 5 [43]).name.2.step.l = (r.want 5 [43]).name.2.l ∧ (r.want 5 [43]).name.2.step.i = (r.want 5 [43]).name.2.i + 1 := ⟨rfl, rfl⟩
      dsimp only
      exact ⟨by rw [h4.1, h3.1, h2.1, e.1, h1.1, h0.1], by omega⟩
    · exact ⟨by rw [h1.1, h0.1], by show r.i ≤ (r.want 5 [43]).name.2.i; omega⟩
end Rd
def zeroR : Rul := ⟨[], 0, [], []⟩
def readR (l : List Tok) (i : Nat) : Rul × Nat × Int :=
  let x := (rd0 l i).rule
  if x.2.endE = 0 then (if ruleOk x.1 then (x.1, x.2.endI i, 0) else (zeroR, i, 7)) else (zeroR, x.2.endI i, 7)
def parseR (s : Bs) : Rul × Int :=
  if errR s = 0 then
    let x := readR (toksR s) 0
    if x.2.2 = 0 ∧ ¬ x.2.1 < (toksR s).length then (x.1, 0) else (zeroR, 7)
  else (zeroR, errR s)
end Go.PV
namespace Go.PV
open Go
/-! what is read of rules is short -/
def trmS (t : Trm) : Prop := t.v.length ≤ 1000000 ∧ t.x.s.length ≤ 1000000
def stpS (o : Stp) : Prop := o.v.length ≤ 1000000 ∧ o.x.s.length ≤ 1000000
namespace Rd
theorem term_s (r : Rd) : trmS r.term.1 := by
  unfold term
  split
  · split
    · rename_i t ht
      obtain ⟨x, _, hx⟩ := Option.bind_eq_some_iff.1 ht
      have := termOk_len (value_ok hx)
      exact ⟨by show t.v.length ≤ _; omega, by show t.x.s.length ≤ _; omega⟩
    · exact ⟨Nat.zero_le _, Nat.zero_le _⟩
  · exact ⟨Nat.zero_le _, Nat.zero_le _⟩
theorem name_s (r : Rd) : r.name.1.length ≤ 1000000 := by
  unfold name
  split
  · split
    · split
      · rename_i h; have := name_len h.2; dsimp only; omega
      · exact Nat.zero_le _
    · exact Nat.zero_le _
  · exact Nat.zero_le _
theorem args_s : ∀ (f : Nat) (r : Rd), ∀ t ∈ (args f r).1, trmS t
  | 0, r => fun t ht => by cases ht
  | f + 1, r => by
    rw [args]
    split
    · intro t ht
      rcases List.mem_cons.1 ht with rfl | ht
      · exact term_s _
      · exact args_s f _ t ht
    · intro t ht; cases ht
theorem atom_s (r : Rd) : r.atom.1.n.length ≤ 1000000 ∧ r.atom.1.a.length ≤ 1000000 ∧ ∀ t ∈ r.atom.1.a, t.v.length ≤ 1000000 ∧ t.x.s.length ≤ 1000000 := by
  unfold atom
  dsimp only
  split
  · unfold brack
    dsimp only
    refine ⟨name_s r, by rw [List.length_take]; omega, fun t ht => ?_⟩
    rcases List.mem_cons.1 (List.mem_of_mem_take ht) with rfl | ht
    · exact term_s _
    · exact args_s _ _ t ht
  · exact ⟨name_s r, Nat.zero_le _, fun t ht => by cases ht⟩
theorem part_s : ∀ (n : Nat) (r : Rd), ∀ o ∈ (part n r).1, stpS o
  | 0, r => by
    unfold part
    split
    · intro o ho; cases ho
    · intro o ho
      rw [List.mem_singleton] at ho
      subst ho
      exact term_s r
  | n + 1, r => by
    rw [part]
    split
    · dsimp only
      split
      · intro o ho
        rw [List.mem_append, List.mem_append, List.mem_singleton] at ho
        rcases ho with (ho | ho) | rfl
        · exact part_s n _ o ho
        · exact part_s n _ o ho
        · exact ⟨Nat.zero_le _, Nat.zero_le _⟩
      · intro o ho; cases ho
    · intro o ho
      rw [List.mem_singleton] at ho
      subst ho
      exact term_s r
theorem expr_s (r : Rd) : r.expr.1.length ≤ 1000000 ∧ ∀ o ∈ r.expr.1, o.v.length ≤ 1000000 ∧ o.x.s.length ≤ 1000000 := by
  unfold expr
  split
  · have := part_len 15 r
    exact ⟨by dsimp only; omega, part_s 15 r⟩
  · exact ⟨Nat.zero_le _, fun o ho => by cases ho⟩
theorem cnd_s (k : Int) {a : Atm} (h : a.n.length ≤ 1000000 ∧ a.a.length ≤ 1000000 ∧ ∀ t ∈ a.a, t.v.length ≤ 1000000 ∧ t.x.s.length ≤ 1000000) : cndB ⟨k, a, 0, [], []⟩ :=
  have z : ∀ o ∈ ([] : List Stp), o.v.length ≤ 1000000 ∧ o.x.s.length ≤ 1000000 := fun o ho => absurd ho List.not_mem_nil
  ⟨h.1, h.2.1, h.2.2, Nat.zero_le _, z, Nat.zero_le _, z⟩
theorem condR_s (r : Rd) : cndB r.condR.1 := by
  unfold condR
  split
  · have h1 := expr_s r.step
    have h2 := expr_s r.step.expr.2.way.2
    exact ⟨Nat.zero_le _, Nat.zero_le _, fun t ht => absurd ht List.not_mem_nil, h1.1, h1.2, h2.1, h2.2⟩
  · split
    · exact cnd_s 2 (atom_s r.step)
    · exact cnd_s 1 (atom_s r)
theorem many_s {α : Type} {g : Rd → α × Rd} {p : α → Prop} (hg : ∀ r, p (g r).1) : ∀ (f : Nat) (r : Rd), ∀ x ∈ (many g f r).1, p x
  | 0, r => fun x hx => by cases hx
  | f + 1, r => by
    rw [many]
    split
    · intro x hx
      rcases List.mem_cons.1 hx with rfl | hx
      · exact hg _
      · exact many_s hg f _ x hx
    · intro x hx; cases hx
theorem actR_s (r : Rd) : actB r.actR.1 := by
  unfold actR
  split
  · exact ⟨Nat.zero_le _, Nat.zero_le _, fun l hl => absurd hl List.not_mem_nil⟩
  · dsimp only
    split
    · refine ⟨name_s _, by dsimp only; rw [List.length_take]; omega, fun l hl => ?_⟩
      rcases List.mem_cons.1 (List.mem_of_mem_take hl) with rfl | hl
      · exact expr_s _
      · exact many_s (p := fun l => l.length ≤ 1000000 ∧ ∀ o ∈ l, o.v.length ≤ 1000000 ∧ o.x.s.length ≤ 1000000) expr_s _ _ l hl
    · exact ⟨name_s _, Nat.zero_le _, fun l hl => absurd hl List.not_mem_nil⟩
theorem rule_s (r : Rd) : rulB r.rule.1 := by
  unfold rule
  dsimp only
  refine ⟨name_s _, by dsimp only; rw [List.length_take]; omega, fun c hc => ?_, by dsimp only; rw [List.length_take]; omega, fun c hc => ?_⟩
  · rcases List.mem_cons.1 (List.mem_of_mem_take hc) with rfl | hc
    · exact condR_s _
    · exact many_s condR_s _ _ c hc
  · rcases List.mem_cons.1 (List.mem_of_mem_take hc) with rfl | hc
    · exact actR_s _
    · exact many_s actR_s _ _ c hc
end Rd
end Go.PV
namespace Go.PV
open Go
/-! law 11: small things -/
theorem any_take_drop {α : Type} {p : α → Bool} {l : List α} {k : Nat} (h : k < l.length) (hp : p l[k] = false) : (l.drop k).any p = (l.drop (k + 1)).any p := by
  rw [List.drop_eq_getElem_cons h, List.any_cons, hp, Bool.false_or]
theorem any_true {α : Type} {p : α → Bool} {l : List α} {k : Nat} (h : k < l.length) (hp : p l[k] = true) : (l.drop k).any p = true := by
  rw [List.drop_eq_getElem_cons h, List.any_cons, hp, Bool.true_or]
def rW : Bs := [114, 117, 108, 101, 32, 97, 32, 45, 53, 58, 32, 112, 40, 88, 41, 44, 32, 110, 111, 116, 32, 113, 40, 88, 41, 44, 32, 91, 88, 32, 60, 32, 51, 93, 32, 45, 62, 32, 43, 114, 40, 40, 88, 32, 43, 32, 49, 41, 41, 44, 32, 100, 114, 111, 112, 32, 48, 46]
def rB : Bs := [114, 117, 108, 101, 32, 97, 32, 48, 58, 32, 110, 111, 116, 32, 112, 32, 45, 62, 32, 43, 113, 46]
def rR : Rul := ⟨[97], -5, [⟨1, ⟨[112], [⟨[88], zeroV⟩]⟩, 0, [], []⟩, ⟨2, ⟨[113], [⟨[88], zeroV⟩]⟩, 0, [], []⟩, ⟨3, zeroA, 3, [⟨1, [88], zeroV⟩], [⟨2, [], ⟨1, 3, []⟩⟩]⟩],
  [⟨1, [114], [[⟨1, [88], zeroV⟩, ⟨2, [], ⟨1, 1, []⟩⟩, ⟨3, [], zeroV⟩]], 0⟩, ⟨2, [], [], 0⟩]⟩
set_option maxRecDepth 100000 in
theorem rW_p : parseR rW = (rR, 0) := by decide +kernel
set_option maxRecDepth 100000 in
theorem rB_p : (parseR rB).2 = 7 := by decide +kernel
set_option maxRecDepth 100000 in
theorem rR_t : ruleE rR = 0 ∧ ruleX rR = rW := by decide +kernel
end Go.PV
namespace Go.PV
open Go
/-! rules: what is written is read -/
noncomputable def treeOf (l : List Stp) : Tree := if h : exprOk l = true then Classical.choose (Tree.of_ok h) else .leaf zeroT
theorem treeOf_ok {l : List Stp} (h : exprOk l = true) : (treeOf l).ok = true ∧ (treeOf l).ops = l ∧ (treeOf l).size ≤ 15 ∧ (treeOf l).txt = exprT l := by
  have e : treeOf l = Classical.choose (Tree.of_ok h) := by unfold treeOf; rw [dif_pos h]
  obtain ⟨h1, h2, h3⟩ := Classical.choose_spec (Tree.of_ok h)
  rw [e]
  exact ⟨h1, h2, h3, by rw [← Tree.exprT_ops h1, h2]⟩
noncomputable def exprK (b : Bs) (l : List Stp) : List (Bs × KT) := (treeOf l).toks b
theorem exprK_T {l : List Stp} (h : exprOk l = true) (b : Bs) : weaveK (exprK b l) = b ++ exprT l := by
  unfold exprK; rw [Tree.weave_toks, (treeOf_ok h).2.2.2]
noncomputable def manyK {α : Type} (k : Bs → α → List (Bs × KT)) (xs : List α) : List (Bs × KT) := xs.flatMap fun x => ([], (5, [44])) :: k [32] x
theorem manyK_T {α : Type} {k : Bs → α → List (Bs × KT)} {t : α → Bs} : ∀ {xs : List α}, (∀ x ∈ xs, weaveK (k [32] x) = 32 :: t x) → weaveK (manyK k xs) = Lib.joinTail [44, 32] (xs.map t)
  | [], _ => rfl
  | x :: r, h => by
    have ih := manyK_T (xs := r) (fun y hy => h y (by simp [hy]))
    have e : manyK k (x :: r) = ([], (5, [44])) :: (k [32] x ++ manyK k r) := by simp [manyK]
    rw [e, weaveK, weaveK_app, h x (by simp), ih]
    simp [Lib.joinTail]
theorem wov_many {α : Type} {k : Bs → α → List (Bs × KT)} {t : α → Bs} {tail : Bs} (ht : stopH tail = true) : ∀ {xs : List α}, (∀ x ∈ xs, weaveK (k [32] x) = 32 :: t x) → (∀ x ∈ xs, ∀ w, stopH w = true → WovK w (k [32] x)) → WovK tail (manyK k xs) ∧ stopH (weaveK (manyK k xs) ++ tail) = true
  | [], _, _ => ⟨trivial, ht⟩
  | x :: r, h, hw => by
    obtain ⟨i1, i2⟩ := wov_many ht (xs := r) (fun y hy => h y (by simp [hy])) (fun y hy => hw y (by simp [hy]))
    have e : manyK k (x :: r) = ([], (5, [44])) :: (k [32] x ++ manyK k r) := by simp [manyK]
    rw [e]
    refine ⟨⟨rfl, by unfold Tk; decide +kernel, ?_, WovK.app (hw x (by simp) _ i2) i1⟩, rfl⟩
    rw [weaveK_app, h x (by simp)]
    exact okEnd_stop rfl
noncomputable def condK (b : Bs) (c : Cnd) : List (Bs × KT) :=
  if c.k = 3 then (b, (5, [91])) :: (exprK [] c.l ++ ([32], (5, wayT c.h)) :: (exprK [32] c.r ++ [([], (5, [93]))]))
  else if c.k = 2 then (b, (1, [110, 111, 116])) :: atomK [32] c.a else atomK b c.a
noncomputable def actK (b : Bs) (x : Act) : List (Bs × KT) :=
  if x.k = 2 then [(b, (1, [100, 114, 111, 112])), ([32], (3, Lib.itoa x.w))]
  else (b, (5, [43])) :: ([], (1, x.n)) :: (match x.a with
    | [] => []
    | e :: es => ([], (5, [40])) :: (exprK [] e ++ (manyK exprK es ++ [([], (5, [41]))])))
theorem weave_atom (b : Bs) (a : Atm) : weaveK (atomK b a) = b ++ atomT a := weaveK_atomK b a
theorem condK_T {c : Cnd} (h : condOk c = true) (b : Bs) : weaveK (condK b c) = b ++ condT c := by
  unfold condK condT
  split
  · rename_i hk
    obtain ⟨_, _, _, h1, h2⟩ := condOk_3 h hk
    rw [weaveK, weaveK_app, exprK_T h1, weaveK, weaveK_app, exprK_T h2]
    simp [weaveK]
  · split
    · rw [weaveK, weave_atom]; simp
    · rw [weave_atom]
theorem actK_T {m : Int} {x : Act} (h : actOk m x = true) (b : Bs) : weaveK (actK b x) = b ++ actT x := by
  unfold actK actT
  split
  · simp [weaveK]
  · rename_i hk
    obtain ⟨_, _, _, _, h4⟩ := actOk_1 h hk
    obtain ⟨k, n, a, w⟩ := x
    dsimp only at h4 ⊢
    cases a with
    | nil => simp [weaveK]
    | cons e es =>
      rw [List.all_cons, Bool.and_eq_true] at h4
      have ht : ∀ l ∈ es, weaveK (exprK [32] l) = 32 :: exprT l := fun l hl => exprK_T (List.all_eq_true.1 h4.2 l hl) [32]
      rw [if_neg (by simp)]
      simp only [weaveK, weaveK_app, exprK_T h4.1, manyK_T ht, List.map_cons, Lib.join_cons]
      simp
theorem wov_expr {l : List Stp} (h : exprOk l = true) {b tail : Bs} (hb : blk b = true) (ht : stopH tail = true) : WovK tail (exprK b l) := Tree.wov (treeOf_ok h).1 b tail hb ht
theorem expr_head {l : List Stp} (h : exprOk l = true) (r : Bs) {x : UInt8} (hx : x ≠ 45) : okEnd (5, [x]) (exprT l ++ r) = true := by
  obtain ⟨c, u, e, h1, h2⟩ := Tree.txt_head (treeOf_ok h).1
  rw [(treeOf_ok h).2.2.2] at e
  rw [e]; exact okEnd_sign hx ⟨h1, h2⟩
theorem tk_way {h : Int} (h1 : 1 ≤ h) (h2 : h ≤ 4) : Tk (5, wayT h) ∧ ∀ r : Bs, okEnd (5, wayT h) (32 :: r) = true := by
  have : h = 1 ∨ h = 2 ∨ h = 3 ∨ h = 4 := by omega
  rcases this with rfl | rfl | rfl | rfl <;> exact ⟨by unfold Tk; decide +kernel, fun r => okEnd_stop rfl⟩
theorem wov_cond {c : Cnd} (h : condOk c = true) {b tail : Bs} (hb : blk b = true) (ht : stopH tail = true) : WovK tail (condK b c) := by
  unfold condK
  split
  · rename_i hk
    obtain ⟨_, w1, w2, h1, h2⟩ := condOk_3 h hk
    obtain ⟨q1, q2⟩ := tk_way w1 w2
    refine ⟨hb, by unfold Tk; decide +kernel, ?_, WovK.app (wov_expr h1 rfl rfl) ⟨rfl, q1, ?_, WovK.app (wov_expr h2 rfl rfl) ⟨rfl, by unfold Tk; decide +kernel, okEnd_stop ht, trivial⟩⟩⟩
    · rw [weaveK_app, exprK_T h1, List.nil_append, List.append_assoc]; exact expr_head h1 _ (by decide)
    · rw [weaveK_app, exprK_T h2]; exact q2 _
  · rename_i hk
    obtain ⟨_, _, _, _, h1⟩ := condOk_n h hk
    split
    · refine ⟨hb, by unfold Tk; decide +kernel, ?_, wov_atom ht rfl h1⟩
      rw [weave_atom]; exact okEnd_stop rfl
    · exact wov_atom ht hb h1
theorem wov_act {m : Int} (hm : m ≤ 1000) {x : Act} (h : actOk m x = true) {b tail : Bs} (hb : blk b = true) (ht : stopH tail = true) : WovK tail (actK b x) := by
  unfold actK
  split
  · rename_i hk
    obtain ⟨_, _, w1, w2⟩ := actOk_2 h hk
    have hr : inR x.w = true := by unfold inR; rw [decide_eq_true_iff]; omega
    exact ⟨hb, by unfold Tk; decide +kernel, okEnd_stop rfl, rfl, tk_num (by rw [refNum_itoa hr]; rfl), okEnd_stop ht, trivial⟩
  · rename_i hk
    obtain ⟨_, hn, _, _, h4⟩ := actOk_1 h hk
    have tn : Tk (1, x.n) := tk_word (large := false) (nameS_word hn)
    obtain ⟨k, n, a, w⟩ := x
    dsimp only at h4 hn tn ⊢
    cases a with
    | nil =>
      refine ⟨hb, by unfold Tk; decide +kernel, ?_, rfl, tn, okEnd_stop ht, trivial⟩
      rw [weaveK, List.nil_append, List.append_assoc]; exact okEnd_head (x := 43) (t := (1, n)) (by decide) tn (show (1 : Int) ≠ 5 by decide) _
    | cons e es =>
      rw [List.all_cons, Bool.and_eq_true] at h4
      have h5 : ∀ l ∈ es, exprOk l = true := fun l hl => List.all_eq_true.1 h4.2 l hl
      have ht2 : ∀ l ∈ es, weaveK (exprK [32] l) = 32 :: exprT l := fun l hl => exprK_T (h5 l hl) [32]
      obtain ⟨i1, i2⟩ := wov_many (k := exprK) (t := exprT) (tail := [41] ++ tail) rfl ht2 (fun l hl w hw => wov_expr (h5 l hl) rfl hw)
      have hw2 : WovK tail (manyK exprK es ++ [([], (5, [41]))]) := WovK.app (by simpa [weaveK] using i1) ⟨rfl, by unfold Tk; decide +kernel, okEnd_stop ht, trivial⟩
      refine ⟨hb, by unfold Tk; decide +kernel, ?_, rfl, tn, okEnd_stop rfl, rfl, by unfold Tk; decide +kernel, ?_, WovK.app (wov_expr h4.1 rfl ?_) hw2⟩
      · rw [weaveK, List.nil_append, List.append_assoc]; exact okEnd_head (x := 43) (t := (1, n)) (by decide) tn (show (1 : Int) ≠ 5 by decide) _
      · rw [weaveK_app, exprK_T h4.1, List.nil_append, List.append_assoc]; exact expr_head h4.1 _ (by decide)
      · rw [weaveK_app, List.append_assoc]; simpa [weaveK] using i2
end Go.PV
namespace Go.PV
open Go
/-! rules: their signs are read as them -/
namespace Rd
theorem rest_adv {r : Rd} {K m : List KT} (h : r.rest = K ++ m) : (r.adv K.length).rest = m := by
  unfold rest adv at *
  exact rest_add h
theorem adv_add (r : Rd) (a b : Nat) : (r.adv a).adv b = r.adv (a + b) := by unfold adv; dsimp only; rw [Nat.add_assoc]
theorem step_adv (r : Rd) (a : Nat) : r.step.adv a = r.adv (a + 1) := by unfold adv step; dsimp only; rw [Nat.add_assoc, Nat.add_comm 1]
theorem adv_step (r : Rd) (a : Nat) : (r.adv a).step = r.adv (a + 1) := rfl
theorem expr_restK {r : Rd} {l : List Stp} {b : Bs} {m : List KT} (h : exprOk l = true) (ho : r.isOpen = true) (hr : r.rest = (exprK b l).map (·.2) ++ m) : r.expr = (l, r.adv (exprK b l).length) := by
  have := expr_rest (treeOf_ok h).1 (treeOf_ok h).2.2.1 ho hr
  rw [this, (treeOf_ok h).2.1]; rfl
theorem way_rest {r : Rd} {h : Int} {m : List KT} (h1 : 1 ≤ h) (h2 : h ≤ 4) (ho : r.isOpen = true) (hr : r.rest = (5, wayT h) :: m) : r.way = (h, r.step) := by
  have hs := see_rest ho hr
  have hn : ∀ x : Bs, x ≠ wayT h → r.see 5 x = false := fun x hx => see_no (x := (5, x)) (by rw [hr]; simp; exact fun e => hx e.symm)
  unfold way
  have : h = 1 ∨ h = 2 ∨ h = 3 ∨ h = 4 := by omega
  rcases this with rfl | rfl | rfl | rfl
  · rw [if_pos (show r.see 5 [61] = true from hs)]
  · rw [if_neg (by rw [hn [61] (by decide)]; simp), if_pos (show r.see 5 [33, 61] = true from hs)]
  · rw [if_neg (by rw [hn [61] (by decide)]; simp), if_neg (by rw [hn [33, 61] (by decide)]; simp), if_pos (show r.see 5 [60] = true from hs)]
  · rw [if_neg (by rw [hn [61] (by decide)]; simp), if_neg (by rw [hn [33, 61] (by decide)]; simp), if_neg (by rw [hn [60] (by decide)]; simp), if_pos (show r.see 5 [60, 61] = true from hs)]
theorem num_rest {r : Rd} {n : Int} {m : List KT} (hn : inR n = true) (ho : r.isOpen = true) (hr : r.rest = (3, Lib.itoa n) :: m) : r.num = (n, r.step) := by
  unfold num
  rw [if_pos ho, (rest_cons hr).1]
  dsimp only
  rw [if_pos rfl, number_itoa hn]
theorem condR_rest {r : Rd} {c : Cnd} {b : Bs} {m : List KT} (h : condOk c = true) (ho : r.isOpen = true) (hr : r.rest = (condK b c).map (·.2) ++ m) (hm : m.head? ≠ some (5, [40])) : r.condR = (c, r.adv (condK b c).length) := by
  unfold condK at hr ⊢
  unfold condR
  by_cases hk : c.k = 3
  · rw [if_pos hk] at hr ⊢
    obtain ⟨ha, w1, w2, h1, h2⟩ := condOk_3 h hk
    have hr : r.rest = (5, [91]) :: ((exprK [] c.l).map (·.2) ++ ((5, wayT c.h) :: ((exprK [32] c.r).map (·.2) ++ (5, [93]) :: m))) := by rw [hr]; simp
    have hc := rest_cons hr
    rw [if_pos (show r.see 5 [91] = true from see_rest ho hr)]
    have q1 := expr_restK (r := r.step) h1 ho hc.2
    have r1 := rest_adv hc.2
    rw [List.length_map] at r1
    have q2 := way_rest (r := r.step.adv (exprK [] c.l).length) w1 w2 ho r1
    have r2 := (rest_cons r1).2
    have q3 := expr_restK (r := (r.step.adv (exprK [] c.l).length).step) h2 ho r2
    have r3 := rest_adv r2
    rw [List.length_map] at r3
    have q4 := want_rest (r := (r.step.adv (exprK [] c.l).length).step.adv (exprK [32] c.r).length) ho r3
    dsimp only
    rw [q1]
    dsimp only
    rw [q2]
    dsimp only
    rw [q3]
    dsimp only
    refine Prod.ext ?_ ?_
    · obtain ⟨k, a, hh, l, r'⟩ := c
      dsimp only at hk ha ⊢
      rw [hk, ha]
    · refine q4.trans ?_
      simp only [adv, step, List.length_cons, List.length_append, List.length_nil]
      congr 1; omega
  · rw [if_neg hk] at hr ⊢
    obtain ⟨hk2, hh, hl, hrr, h1⟩ := condOk_n h hk
    have hz : c = ⟨c.k, c.a, 0, [], []⟩ := by
      obtain ⟨k, a, hh', l, r'⟩ := c
      dsimp only at hh hl hrr ⊢
      rw [hh, hl, hrr]
    by_cases h2 : c.k = 2
    · rw [if_pos h2] at hr ⊢
      have hr : r.rest = (1, [110, 111, 116]) :: ((atomK [32] c.a).map (·.2) ++ m) := by rw [hr]; rfl
      have hc := rest_cons hr
      have n1 : r.see 5 [91] = false := see_no (x := (5, [91])) (by rw [hr]; simp)
      rw [if_neg (by rw [n1]; simp), if_pos (show r.see 1 [110, 111, 116] = true from see_rest ho hr)]
      have q := atom_rest (r := r.step) ho h1 hc.2 (fun _ => hm)
      dsimp only
      rw [q]
      refine Prod.ext ?_ ?_
      · rw [hz, h2]
      · dsimp only; rw [step_adv]; rfl
    · rw [if_neg h2] at hr ⊢
      have h1k : c.k = 1 := by omega
      have hr0 : r.rest = (1, c.a.n) :: ((argsK c.a.a).map (·.2) ++ m) := hr
      have hnm : nameS c.a.n = true := by unfold atomOk at h1; simp only [Bool.and_eq_true] at h1; exact h1.1.1
      have hnot : c.a.n ≠ [110, 111, 116] := by
        intro e; rw [e] at hnm; exact absurd hnm (by decide +kernel)
      have n1 : r.see 5 [91] = false := see_no (x := (5, [91])) (by rw [hr0]; simp)
      have n2 : r.see 1 [110, 111, 116] = false := see_no (x := (1, [110, 111, 116])) (by rw [hr0]; simp; exact hnot)
      rw [if_neg (by rw [n1]; simp), if_neg (by rw [n2]; simp)]
      have q := atom_rest (r := r) ho h1 hr (fun _ => hm)
      dsimp only
      rw [q]
      refine Prod.ext ?_ rfl
      rw [hz, h1k]
theorem many_rest {α : Type} {g : Rd → α × Rd} {k : Bs → α → List (Bs × KT)} {m : List KT} (hm : m.head? ≠ some (5, [44])) (hm2 : m.head? ≠ some (5, [40])) : ∀ (xs : List α) (f : Nat) (r : Rd), (∀ x ∈ xs, ∀ (r : Rd) (m : List KT), r.isOpen = true → r.rest = (k [32] x).map (·.2) ++ m → m.head? ≠ some (5, [40]) → g r = (x, r.adv (k [32] x).length)) →
    r.isOpen = true → r.rest = (manyK k xs).map (·.2) ++ m → xs.length ≤ f → many g f r = (xs, r.adv (manyK k xs).length)
  | [], f, r, _, ho, hr, _ => by
    have hs : r.see 5 [44] = false := see_no (x := (5, [44])) (by rw [hr]; exact hm)
    cases f <;> simp [many, hs] <;> rfl
  | x :: xs, f, r, hg, ho, hr, hf => by
    obtain ⟨f, rfl⟩ : ∃ f', f = f' + 1 := ⟨f - 1, by simp at hf; omega⟩
    have e : manyK k (x :: xs) = ([], (5, [44])) :: (k [32] x ++ manyK k xs) := by simp [manyK]
    rw [e] at hr ⊢
    have hr : r.rest = (5, [44]) :: ((k [32] x).map (·.2) ++ ((manyK k xs).map (·.2) ++ m)) := by rw [hr]; simp
    have hc := rest_cons hr
    have hh : ((manyK k xs).map (·.2) ++ m).head? ≠ some (5, [40]) := by
      cases xs with
      | nil => exact hm2
      | cons y ys => simp [manyK]
    have q := hg x (by simp) r.step _ ho hc.2 hh
    have r1 := rest_adv hc.2
    rw [List.length_map] at r1
    have ih := many_rest hm hm2 xs f (r.step.adv (k [32] x).length) (fun y hy => hg y (by simp [hy])) ho r1 (by simp at hf; omega)
    rw [many, if_pos (show r.see 5 [44] = true from see_rest ho hr), q]
    dsimp only
    rw [ih]
    refine Prod.ext rfl ?_
    simp only [adv, step, List.length_cons, List.length_append]
    congr 1; omega
theorem manyK_len {α : Type} (k : Bs → α → List (Bs × KT)) : ∀ xs : List α, xs.length ≤ (manyK k xs).length
  | [] => Nat.zero_le _
  | x :: r => by
    have := manyK_len k r
    have e : manyK k (x :: r) = ([], (5, [44])) :: (k [32] x ++ manyK k r) := by simp [manyK]
    rw [e]; simp only [List.length_cons, List.length_append]; omega
theorem rest_len {r : Rd} {K m : List KT} (h : r.rest = K ++ m) : K.length ≤ r.l.length := by
  have := congrArg List.length h
  unfold rest at this
  rw [List.length_map, List.length_drop, List.length_append] at this
  omega
theorem actR_rest {n : Int} {r : Rd} {x : Act} {b : Bs} {m : List KT} (hn : n ≤ 1000) (h : actOk n x = true) (ho : r.isOpen = true) (hr : r.rest = (actK b x).map (·.2) ++ m) (hm : m.head? ≠ some (5, [40])) : r.actR = (x, r.adv (actK b x).length) := by
  unfold actK at hr ⊢
  by_cases hk : x.k = 2
  · rw [if_pos hk] at hr ⊢
    obtain ⟨q1, q2, w1, w2⟩ := actOk_2 h hk
    have hi : inR x.w = true := by unfold inR; rw [decide_eq_true_iff]; omega
    have hr : r.rest = (1, [100, 114, 111, 112]) :: (3, Lib.itoa x.w) :: m := by rw [hr]; rfl
    have hc := rest_cons hr
    have hu := num_rest (r := r.step) hi ho hc.2
    unfold actR
    rw [if_pos (show r.see 1 [100, 114, 111, 112] = true from see_rest ho hr), hu]
    dsimp only
    have hneg : decide (x.w < 0) = false := decide_eq_false (by omega)
    rw [hneg, Bool.and_false, if_neg (by simp)]
    refine Prod.ext ?_ rfl
    obtain ⟨k, n', a, w⟩ := x
    dsimp only at hk q1 q2 ⊢
    rw [hk, q1, q2]
  · rw [if_neg hk] at hr ⊢
    obtain ⟨hk1, hnm, hw, h5, h4⟩ := actOk_1 h hk
    obtain ⟨k, n', a, w⟩ := x
    dsimp only at hk1 hnm hw h5 h4 hr ⊢
    subst hk1 hw
    unfold actR
    cases a with
    | nil =>
      have hr : r.rest = (5, [43]) :: (1, n') :: m := by rw [hr]; rfl
      have hc := rest_cons hr
      have hc2 := rest_cons hc.2
      have n1 : r.see 1 [100, 114, 111, 112] = false := see_no (x := (1, [100, 114, 111, 112])) (by rw [hr]; simp)
      have hwn := want_rest ho hr
      have hname := name_rest (r := r.step) ho hc.2 hnm
      have hs : r.step.step.see 5 [40] = false := see_no (x := (5, [40])) (by rw [hc2.2]; exact hm)
      rw [if_neg (by rw [n1]; simp)]
      dsimp only at hwn ⊢
      rw [hwn, hname]
      dsimp only
      rw [if_neg (by rw [hs]; simp)]
      rfl
    | cons e es =>
      rw [List.all_cons, Bool.and_eq_true] at h4
      have h6 : ∀ l ∈ es, exprOk l = true := fun l hl => List.all_eq_true.1 h4.2 l hl
      have hr : r.rest = (5, [43]) :: (1, n') :: (5, [40]) :: ((exprK [] e).map (·.2) ++ ((manyK exprK es).map (·.2) ++ (5, [41]) :: m)) := by rw [hr]; simp
      have hc := rest_cons hr
      have hc2 := rest_cons hc.2
      have hc3 := rest_cons hc2.2
      have n1 : r.see 1 [100, 114, 111, 112] = false := see_no (x := (1, [100, 114, 111, 112])) (by rw [hr]; simp)
      have hwn := want_rest ho hr
      have hname := name_rest (r := r.step) ho hc.2 hnm
      have hs : r.step.step.see 5 [40] = true := see_rest (r := r.step.step) (x := (5, [40])) ho hc2.2
      have q1 := expr_restK (r := r.step.step.step) h4.1 ho hc3.2
      have r1 := rest_adv hc3.2
      rw [List.length_map] at r1
      have hle := rest_len r1
      rw [List.length_map] at hle
      have hml := manyK_len exprK es
      have q2 := many_rest (g := expr) (k := exprK) (m := (5, [41]) :: m) (by simp) (by simp) es r.l.length (r.step.step.step.adv (exprK [] e).length) (fun l hl r m ho hr _ => expr_restK (h6 l hl) ho hr) ho r1 (Nat.le_trans hml hle)
      have r2 := rest_adv r1
      rw [List.length_map] at r2
      have q3 := want_rest (r := (r.step.step.step.adv (exprK [] e).length).adv (manyK exprK es).length) ho r2
      rw [if_neg (by rw [n1]; simp)]
      dsimp only at hwn q3 ⊢
      rw [hwn, hname]
      dsimp only
      rw [if_pos hs, q1]
      dsimp only
      rw [q2]
      dsimp only
      rw [q3, List.take_of_length_le (by omega)]
      refine Prod.ext rfl ?_
      simp only [adv, step, List.length_cons, List.length_append, List.length_nil]
      congr 1; omega
end Rd
end Go.PV
namespace Go.PV
open Go
/-! a rule's text is read as it -/
noncomputable def itmK {α : Type} (k : Bs → α → List (Bs × KT)) : List α → List (Bs × KT)
  | [] => []
  | x :: xs => k [32] x ++ manyK k xs
theorem itmK_T {α : Type} {k : Bs → α → List (Bs × KT)} {t : α → Bs} {xs : List α} (hx : xs ≠ []) (h : ∀ x ∈ xs, weaveK (k [32] x) = 32 :: t x) : weaveK (itmK k xs) = 32 :: Lib.join (xs.map t) [44, 32] := by
  obtain ⟨x, r, rfl⟩ := List.exists_cons_of_ne_nil hx
  rw [itmK, weaveK_app, h x (by simp), manyK_T (t := t) (fun y hy => h y (by simp [hy])), List.map_cons, Lib.join_cons]; rfl
theorem wov_items {α : Type} {k : Bs → α → List (Bs × KT)} {t : α → Bs} {tail : Bs} (ht : stopH tail = true) {xs : List α} (h : ∀ x ∈ xs, weaveK (k [32] x) = 32 :: t x) (hw : ∀ x ∈ xs, ∀ w, stopH w = true → WovK w (k [32] x)) : WovK tail (itmK k xs) := by
  cases xs with
  | nil => trivial
  | cons x r =>
    obtain ⟨i1, i2⟩ := wov_many (k := k) (t := t) ht (xs := r) (fun y hy => h y (by simp [hy])) (fun y hy => hw y (by simp [hy]))
    exact WovK.app (hw x (by simp) _ i2) i1
noncomputable def ruleK (b : Bs) (r : Rul) : List (Bs × KT) :=
  (b, (1, [114, 117, 108, 101])) :: ([32], (1, r.n)) :: ([32], (3, Lib.itoa r.p)) :: ([], (5, [58])) :: (itmK condK r.c ++ ([32], (5, [45, 62])) :: (itmK actK r.a ++ [([], (5, [46]))]))
theorem ruleK_T {r : Rul} (h : ruleOk r = true) (b : Bs) : weaveK (ruleK b r) = b ++ ruleT r := by
  obtain ⟨h1, h2, h3, h4, h5, h6, h7, h8, h9, h10⟩ := ruleOk_all h
  have hc : r.c ≠ [] := by intro e; rw [e] at h4; simp at h4
  have ha : r.a ≠ [] := by intro e; rw [e] at h7; simp at h7
  unfold ruleK ruleT
  simp only [weaveK, weaveK_app, itmK_T (t := condT) hc (fun c hc => condK_T (h9 c hc) [32]), itmK_T (t := actT) ha (fun x hx => actK_T (h10 x hx) [32])]
  simp
theorem wov_rule {r : Rul} (h : ruleOk r = true) {b tail : Bs} (hb : blk b = true) (ht : stopH tail = true) : WovK tail (ruleK b r) := by
  obtain ⟨h1, h2, h3, h4, h5, h6, h7, h8, h9, h10⟩ := ruleOk_all h
  have hh := hasN_len r.c
  have hr : inR r.p = true := by unfold inR; rw [decide_eq_true_iff]; omega
  have hc : r.c ≠ [] := by intro e; rw [e] at h4; simp at h4
  have ha : r.a ≠ [] := by intro e; rw [e] at h7; simp at h7
  have tc : ∀ c ∈ r.c, weaveK (condK [32] c) = 32 :: condT c := fun c hc => condK_T (h9 c hc) [32]
  have ta : ∀ x ∈ r.a, weaveK (actK [32] x) = 32 :: actT x := fun x hx => actK_T (h10 x hx) [32]
  have w2 : WovK tail (itmK actK r.a ++ [([], (5, [46]))]) := WovK.app (wov_items (t := actT) rfl ta (fun x hx w hw => wov_act (by omega) (h10 x hx) rfl hw)) ⟨rfl, by unfold Tk; decide +kernel, okEnd_stop ht, trivial⟩
  have e2 : weaveK (itmK actK r.a ++ [([], (5, [46]))]) ++ tail = 32 :: (Lib.join (r.a.map actT) [44, 32] ++ ([46] ++ tail)) := by
    rw [weaveK_app, itmK_T (t := actT) ha ta]; simp [weaveK]
  have w1 : WovK tail (itmK condK r.c ++ ([32], (5, [45, 62])) :: (itmK actK r.a ++ [([], (5, [46]))])) := by
    refine WovK.app (wov_items (t := condT) rfl tc (fun c hc w hw => wov_cond (h9 c hc) rfl hw)) ⟨rfl, by unfold Tk; decide +kernel, ?_, w2⟩
    rw [e2]; exact okEnd_stop rfl
  refine ⟨hb, by unfold Tk; decide +kernel, okEnd_stop rfl, rfl, tk_word (large := false) (nameS_word h1), okEnd_stop rfl, rfl, tk_num (by rw [refNum_itoa hr]; rfl), okEnd_stop rfl, rfl, by unfold Tk; decide +kernel, ?_, w1⟩
  rw [weaveK_app, itmK_T (t := condT) hc tc]; exact okEnd_stop rfl
namespace Rd
theorem items_rest {α : Type} {g : Rd → α × Rd} {k : Bs → α → List (Bs × KT)} {m : List KT} (hm : m.head? ≠ some (5, [44])) (hm2 : m.head? ≠ some (5, [40])) {x : α} {xs : List α} {f : Nat} {r : Rd} (hg : ∀ y ∈ x :: xs, ∀ (r : Rd) (m : List KT), r.isOpen = true → r.rest = (k [32] y).map (·.2) ++ m → m.head? ≠ some (5, [40]) → g r = (y, r.adv (k [32] y).length))
    (ho : r.isOpen = true) (hr : r.rest = (itmK k (x :: xs)).map (·.2) ++ m) (hf : r.l.length ≤ f) : g r = (x, r.adv (k [32] x).length) ∧ many g f (r.adv (k [32] x).length) = (xs, r.adv (itmK k (x :: xs)).length) ∧ (r.adv (itmK k (x :: xs)).length).rest = m := by
  have hr : r.rest = (k [32] x).map (·.2) ++ ((manyK k xs).map (·.2) ++ m) := by rw [hr, itmK]; simp
  have hh : ((manyK k xs).map (·.2) ++ m).head? ≠ some (5, [40]) := by
    cases xs with
    | nil => exact hm2
    | cons y ys => simp [manyK]
  have q := hg x (by simp) r _ ho hr hh
  have r1 := rest_adv hr
  rw [List.length_map] at r1
  have hle := rest_len r1
  rw [List.length_map] at hle
  have hml := manyK_len k xs
  have e : (r.adv (k [32] x).length).l = r.l := rfl
  rw [e] at hle
  have q2 := many_rest hm hm2 xs f (r.adv (k [32] x).length) (fun y hy => hg y (by simp [hy])) ho r1 (by omega)
  have r2 := rest_adv r1
  rw [List.length_map, adv_add] at r2
  have el : (itmK k (x :: xs)).length = (k [32] x).length + (manyK k xs).length := by rw [itmK, List.length_append]
  refine ⟨q, ?_, by rw [el]; exact r2⟩
  rw [q2, el, adv_add]
theorem rule_rest {r : Rd} {a : Rul} {b : Bs} {m : List KT} (h : ruleOk a = true) (ho : r.isOpen = true) (hr : r.rest = (ruleK b a).map (·.2) ++ m) : r.rule = (a, r.adv (ruleK b a).length) := by
  obtain ⟨h1, h2, h3, h4, h5, h6, h7, h8, h9, h10⟩ := ruleOk_all h
  have hh := hasN_len a.c
  have hp : inR a.p = true := by unfold inR; rw [decide_eq_true_iff]; omega
  obtain ⟨n, p, c, x⟩ := a
  dsimp only at h1 h2 h3 h4 h5 h7 h8 h9 h10 hp hh
  have hl : (ruleK b ⟨n, p, c, x⟩).length = 4 + (itmK condK c).length + 1 + (itmK actK x).length + 1 := by
    simp only [ruleK, List.length_cons, List.length_append, List.length_nil]; omega
  have hr : r.rest = (1, [114, 117, 108, 101]) :: (1, n) :: (3, Lib.itoa p) :: (5, [58]) :: ((itmK condK c).map (·.2) ++ (5, [45, 62]) :: ((itmK actK x).map (·.2) ++ (5, [46]) :: m)) := by rw [hr]; simp [ruleK]
  rw [hl]
  cases c with
  | nil => simp at h4
  | cons c cs =>
  cases x with
  | nil => simp at h7
  | cons x xs =>
  have c1 := rest_cons hr
  have c2 := rest_cons c1.2
  have c3 := rest_cons c2.2
  have c4 := rest_cons c3.2
  have w1 := want_rest ho hr
  have w2 := name_rest (r := r.step) ho c1.2 h1
  have w3 := num_rest (r := r.step.step) hp ho c2.2
  have w4 := want_rest (r := r.step.step.step) ho c3.2
  obtain ⟨i1, i2, i3⟩ := items_rest (g := condR) (k := condK) (m := (5, [45, 62]) :: ((itmK actK (x :: xs)).map (·.2) ++ (5, [46]) :: m)) (by simp) (by simp) (f := r.l.length) (r := r.step.step.step.step) (fun y hy r m ho hr hm => condR_rest (h9 y hy) ho hr hm) ho c4.2 (Nat.le_refl _)
  have c5 := rest_cons i3
  have w5 := want_rest (r := r.step.step.step.step.adv (itmK condK (c :: cs)).length) ho i3
  obtain ⟨j1, j2, j3⟩ := items_rest (g := actR) (k := actK) (m := (5, [46]) :: m) (by simp) (by simp) (f := r.l.length) (r := (r.step.step.step.step.adv (itmK condK (c :: cs)).length).step) (fun y hy r m ho hr hm => actR_rest (by omega) (h10 y hy) ho hr hm) ho c5.2 (Nat.le_refl _)
  have w6 := want_rest (r := ((r.step.step.step.step.adv (itmK condK (c :: cs)).length).step).adv (itmK actK (x :: xs)).length) ho j3
  dsimp only at w1 w4 w5 w6
  unfold rule
  dsimp only
  rw [w1, w2]
  dsimp only
  rw [w3]
  dsimp only
  rw [w4, i1]
  dsimp only
  rw [i2]
  dsimp only
  rw [w5, j1]
  dsimp only
  rw [j2]
  dsimp only
  rw [w6, List.take_of_length_le (by omega), List.take_of_length_le (by omega)]
  refine Prod.ext rfl ?_
  simp only [adv, step]
  congr 1; omega
end Rd
theorem readR_back {l : List Tok} {i : Nat} {a : Rul} {b : Bs} {m : List KT} (h : ruleOk a = true) (hr : (l.drop i).map kt = (ruleK b a).map (·.2) ++ m) : readR l i = (a, i + (ruleK b a).length, 0) := by
  have e := Rd.rule_rest (r := rd0 l i) h rfl hr
  unfold readR
  rw [e]
  dsimp only
  rw [if_pos (show ((rd0 l i).adv (ruleK b a).length).endE = 0 from rfl), if_pos h]
  rfl
theorem lex_rule {a : Rul} (h : ruleOk a = true) {q : List (Bs × KT)} (hq : WovK [] q) (hs : stopH (weaveK q) = true) :
    errR (ruleT a ++ weaveK q) = 0 ∧ (toksR (ruleT a ++ weaveK q)).map kt = (ruleK [] a).map (·.2) ++ q.map (·.2) := by
  have hw := WovK.app (tail := []) (a := ruleK [] a) (b := q) (by rw [List.append_nil]; exact wov_rule h rfl hs) hq
  obtain ⟨h1, h2, _⟩ := wovK_R hw rfl
  rw [List.append_nil, weaveK_app, ruleK_T h, List.nil_append] at h1 h2
  exact ⟨h2, by rw [h1, posL_kt, List.map_append]⟩
theorem parse_rule {a : Rul} (h : ruleOk a = true) : parseR (ruleT a) = (a, 0) := by
  have h1 := lex_rule h (q := []) trivial rfl
  have e : ruleT a ++ weaveK [] = ruleT a := List.append_nil _
  rw [e] at h1
  have h2 := readR_back (l := toksR (ruleT a)) (i := 0) (m := []) h (by rw [List.drop_zero]; exact h1.2)
  have h3 : (toksR (ruleT a)).length = (ruleK [] a).length := by have := congrArg List.length h1.2; simpa using this
  unfold parseR
  rw [if_pos h1.1, h2]
  dsimp only
  rw [if_pos ⟨rfl, by omega⟩]
theorem ruleT_inj {a b : Rul} (ha : ruleOk a = true) (hb : ruleOk b = true) : decide (ruleT a = ruleT b) = decide (a = b) := by
  rw [decide_eq_decide]
  refine ⟨fun h => ?_, fun h => by rw [h]⟩
  have h1 := parse_rule ha
  rw [h, parse_rule hb] at h1
  exact (congrArg Prod.fst h1).symm
end Go.PV
namespace Go.PV
open Go
/-! what is read as a rule is right -/
namespace Rd
theorem want_op {r : Rd} {k : Int} {t : Bs} (h : (r.want k t).isOpen = true) : (r.want k t).i = r.i + 1 ∧ r.i < r.l.length := by
  unfold want at *
  split
  · rename_i hs; exact ⟨rfl, cur_lt (see_open hs).2⟩
  · rename_i hs
    rw [if_neg hs] at h
    split at h
    · simp [isOpen, fail] at h
    · rename_i ho; exact absurd h ho
theorem rule_l {r : Rd} (h : r.rule.2.isOpen = true) : r.i < r.rule.2.i ∧ r.rule.2.i ≤ r.l.length := by
  have e0 := want_l r 1 [114, 117, 108, 101]
  have e1 := name_l (r.want 1 [114, 117, 108, 101])
  unfold rule at *
  dsimp only at h ⊢
  generalize (r.want 1 [114, 117, 108, 101]).name = v1 at *
  have e2 := num_l v1.2
  generalize v1.2.num = v2 at *
  have e3 := want_l v2.2 5 [58]
  generalize v2.2.want 5 [58] = v3 at *
  have e4 := condR_l v3
  generalize v3.condR = v4 at *
  have e5 := many_l condR_l r.l.length v4.2
  generalize many condR r.l.length v4.2 = v5 at *
  have e6 := want_l v5.2 5 [45, 62]
  generalize v5.2.want 5 [45, 62] = v6 at *
  have e7 := actR_l v6
  generalize v6.actR = v7 at *
  have e8 := many_l actR_l r.l.length v7.2
  generalize many actR r.l.length v7.2 = v8 at *
  have e9 := want_op h
  have hl : v8.2.l = r.l := by rw [e8.1, e7.1, e6.1, e5.1, e4.1, e3.1, e2.1, e1.1, e0.1]
  rw [hl] at e9
  omega
end Rd
theorem readR_ok {l : List Tok} {i : Nat} (h : (readR l i).2.2 = 0) : ruleOk (readR l i).1 = true ∧ i < (readR l i).2.1 ∧ (readR l i).2.1 ≤ l.length := by
  have hr := @Rd.rule_l (rd0 l i)
  unfold readR at *
  dsimp only at h ⊢
  generalize (rd0 l i).rule = x at *
  by_cases he : x.2.endE = 0
  · rw [if_pos he] at h ⊢
    by_cases hk : ruleOk x.1 = true
    · rw [if_pos hk] at h ⊢
      have hb : x.2.bad = false ∧ x.2.over = false ∧ x.2.wrong = false := by
        unfold Rd.endE at he
        cases h1 : x.2.bad <;> cases h2 : x.2.over <;> cases h3 : x.2.wrong <;> simp [h1, h2, h3] at he ⊢
      have hI : x.2.endI i = x.2.i := by unfold Rd.endI; rw [hb.1, hb.2.1, hb.2.2]; rfl
      have ho : x.2.isOpen = true := by unfold Rd.isOpen; rw [hb.1, hb.2.1]; rfl
      obtain ⟨q1, q2⟩ := hr ho
      exact ⟨hk, by show i < x.2.endI i; rw [hI]; exact q1, by show x.2.endI i ≤ l.length; rw [hI]; exact q2⟩
    · rw [if_neg hk] at h; simp at h
  · rw [if_neg he] at h; simp at h
theorem ruleE_cases (r : Rul) : (ruleE r = 0 ∧ ruleOk r = true ∧ (ruleT r).length ≤ 20000 ∧ ruleX r = ruleT r) ∨ (ruleE r ≠ 0 ∧ ruleX r = [] ∧ (ruleOk r = true → ruleE r = 2 ∧ 20000 < (ruleT r).length) ∧ (ruleOk r = false → ruleE r = 1)) := by
  unfold ruleX ruleE
  cases h : ruleOk r with
  | false => right; exact ⟨by simp, by simp, by simp, by simp⟩
  | true =>
    by_cases hl : 20000 < (ruleT r).length
    · right; simp [hl]
    · left; exact ⟨by simp [hl], rfl, by omega, by simp [hl]⟩
end Go.PV
namespace Go.PV
open Go
/-! two rules, one behind the other -/
theorem wov_rule' {r : Rul} (h : ruleOk r = true) {b tail : Bs} (hb : blk b = true) (ht : okEnd (5, [46]) tail = true) : WovK tail (ruleK b r) := by
  obtain ⟨h1, h2, h3, h4, h5, h6, h7, h8, h9, h10⟩ := ruleOk_all h
  have hh := hasN_len r.c
  have hr : inR r.p = true := by unfold inR; rw [decide_eq_true_iff]; omega
  have hc : r.c ≠ [] := by intro e; rw [e] at h4; simp at h4
  have ha : r.a ≠ [] := by intro e; rw [e] at h7; simp at h7
  have tc : ∀ c ∈ r.c, weaveK (condK [32] c) = 32 :: condT c := fun c hc => condK_T (h9 c hc) [32]
  have ta : ∀ x ∈ r.a, weaveK (actK [32] x) = 32 :: actT x := fun x hx => actK_T (h10 x hx) [32]
  have w2 : WovK tail (itmK actK r.a ++ [([], (5, [46]))]) := WovK.app (wov_items (t := actT) rfl ta (fun x hx w hw => wov_act (by omega) (h10 x hx) rfl hw)) ⟨rfl, by unfold Tk; decide +kernel, ht, trivial⟩
  have e2 : weaveK (itmK actK r.a ++ [([], (5, [46]))]) ++ tail = 32 :: (Lib.join (r.a.map actT) [44, 32] ++ ([46] ++ tail)) := by
    rw [weaveK_app, itmK_T (t := actT) ha ta]; simp [weaveK]
  have w1 : WovK tail (itmK condK r.c ++ ([32], (5, [45, 62])) :: (itmK actK r.a ++ [([], (5, [46]))])) := by
    refine WovK.app (wov_items (t := condT) rfl tc (fun c hc w hw => wov_cond (h9 c hc) rfl hw)) ⟨rfl, by unfold Tk; decide +kernel, ?_, w2⟩
    rw [e2]; exact okEnd_stop rfl
  refine ⟨hb, by unfold Tk; decide +kernel, okEnd_stop rfl, rfl, tk_word (large := false) (nameS_word h1), okEnd_stop rfl, rfl, tk_num (by rw [refNum_itoa hr]; rfl), okEnd_stop rfl, rfl, by unfold Tk; decide +kernel, ?_, w1⟩
  rw [weaveK_app, itmK_T (t := condT) hc tc]; exact okEnd_stop rfl
theorem rule_r (r : Rul) : ∃ u, ruleT r = 114 :: u := ⟨_, rfl⟩
theorem lex_two {a b : Rul} (ha : ruleOk a = true) (hb : ruleOk b = true) (sep : Bs) (hs : blk sep = true) (he : okEnd (5, [46]) (sep ++ ruleT b) = true) :
    errR (ruleT a ++ (sep ++ ruleT b)) = 0 ∧ (toksR (ruleT a ++ (sep ++ ruleT b))).map kt = (ruleK [] a).map (·.2) ++ ((ruleK sep b).map (·.2) ++ []) := by
  have hw := WovK.app (tail := []) (a := ruleK [] a) (b := ruleK sep b) (by rw [List.append_nil, ruleK_T hb]; exact wov_rule' ha rfl he) (wov_rule hb hs rfl)
  obtain ⟨h1, h2, _⟩ := wovK_R hw rfl
  rw [List.append_nil, weaveK_app, ruleK_T ha, ruleK_T hb, List.nil_append] at h1 h2
  exact ⟨h2, by rw [h1, posL_kt, List.map_append, List.append_nil]⟩
theorem read_two {a b : Rul} (ha : ruleOk a = true) (hb : ruleOk b = true) : errR (ruleT a ++ ([10] ++ ruleT b)) = 0 ∧ ∃ n : Nat, n ≤ (toksR (ruleT a ++ ([10] ++ ruleT b))).length ∧ readR (toksR (ruleT a ++ ([10] ++ ruleT b))) 0 = (a, n, 0) ∧ readR (toksR (ruleT a ++ ([10] ++ ruleT b))) n = (b, (toksR (ruleT a ++ ([10] ++ ruleT b))).length, 0) := by
  obtain ⟨h1, h2⟩ := lex_two ha hb [10] rfl (okEnd_stop rfl)
  have hl := congrArg List.length h2
  simp only [List.length_map, List.length_append, List.length_nil, Nat.add_zero] at hl
  refine ⟨h1, (ruleK [] a).length, by omega, ?_, ?_⟩
  · have := readR_back (i := 0) ha (by rw [List.drop_zero]; exact h2)
    rw [this, Nat.zero_add]
  · have h3 := rest_add (i := 0) (by rw [List.drop_zero]; exact h2)
    rw [Nat.zero_add, List.length_map] at h3
    have := readR_back (i := (ruleK [] a).length) hb h3
    rw [this, ← hl]
theorem parse_two {a b : Rul} (ha : ruleOk a = true) (hb : ruleOk b = true) : (parseR (ruleT a ++ ruleT b)).2 = 7 := by
  obtain ⟨u, hu⟩ := rule_r b
  obtain ⟨h1, h2⟩ := lex_two ha hb [] rfl (by rw [List.nil_append, hu]; exact okEnd_sign (by decide) (by decide))
  rw [List.nil_append] at h1 h2
  have hl := congrArg List.length h2
  simp only [List.length_map, List.length_append, List.length_nil, Nat.add_zero] at hl
  have hp : 0 < (ruleK [] b).length := by unfold ruleK; simp
  have hr := readR_back (i := 0) ha (by rw [List.drop_zero]; exact h2)
  unfold parseR
  rw [if_pos h1, hr]
  dsimp only
  rw [if_neg (fun q => q.2 (by omega))]
end Go.PV
namespace Go.PV
open Go
/-! the page's reader of expressions: a machine with a stack -/
def pushS (t : Trm) : Stp := ⟨if t.v = [] then 2 else 1, t.v, t.x⟩
namespace Rf
def closeF : List (Option Int) → List Stp → Rf → Option (List (Option Int) × List Stp) × Rf
  | some k :: st, l, q => if (q.take 5 [41]).ok then closeF st (l ++ [⟨k, [], zeroV⟩]) (q.take 5 [41]) else (none, q.take 5 [41])
  | none :: st, l, q => (some (none :: st, l), q)
  | [], l, q => (some ([], l), q)
def signF (q : Rf) : Option Int := if q.is 5 [43] then some 3 else if q.is 5 [45] then some 4 else if q.is 5 [42] then some 5 else none
def contF (go : Rf → List (Option Int) → List Stp → List Stp × Bool × Rf) (q : Rf) (st : List (Option Int)) (l : List Stp) : List Stp × Bool × Rf :=
  match closeF st l q with
  | (none, q') => ([], false, q')
  | (some ([], l'), q') => (l', false, q')
  | (some (_ :: st', l'), q') => match signF q' with
    | some k => go q'.step (some k :: st') l'
    | none => ([], false, q'.fail)
def exprF : Nat → Rf → List (Option Int) → List Stp → List Stp × Bool × Rf
  | 0, q, _, _ => ([], false, q)
  | f + 1, q, st, l =>
    if q.ok then
      if q.is 5 [40] then
        if 15 < st.length + 1 then ([], true, q.step) else exprF f q.step (none :: st) l
      else if q.term.2.ok then contF (exprF f) q.term.2 st (l ++ [pushS q.term.1])
      else ([], false, q.term.2)
    else ([], false, q)
end Rf
theorem ok40 : tokOk ⟨5, [40], (0, 0)⟩ = true := by decide +kernel
theorem ok41 : tokOk ⟨5, [41], (0, 0)⟩ = true := by decide +kernel
theorem reck_sim {r : Rd} {q : Rf} (h : Sim r q) (ho : q.ok = true) : match q.signF with
    | some k => r.reckons = (k, r.step)
    | none => r.reckons = (0, r.fail) := by
  unfold Rf.signF Rd.reckons
  rw [h.see (k := 5) (s := [43]) (by decide +kernel), h.see (k := 5) (s := [45]) (by decide +kernel), h.see (k := 5) (s := [42]) (by decide +kernel), ho, h.isOpen, ho]
  simp only [Bool.true_and]
  by_cases h1 : q.is 5 [43] = true
  · rw [if_pos h1, if_pos h1]
  · rw [if_neg h1, if_neg h1]
    by_cases h2 : q.is 5 [45] = true
    · rw [if_pos h2, if_pos h2]
    · rw [if_neg h2, if_neg h2]
      by_cases h3 : q.is 5 [42] = true
      · rw [if_pos h3, if_pos h3]
      · rw [if_neg h3, if_neg h3]; simp
theorem Rf.is_up {q : Rf} {k : Int} {s : Bs} (h : q.is k s = true) : q.i < q.l.length := by
  unfold Rf.is Rf.tok at h
  cases hg : q.l[q.i]? with
  | none => rw [hg] at h; simp at h
  | some t => exact (List.getElem?_eq_some_iff.1 hg).1
theorem Rf.sign_up {q : Rf} {k : Int} (h : q.signF = some k) : q.i < q.l.length := by
  unfold Rf.signF at h
  split at h
  · rename_i h1; exact Rf.is_up h1
  · split at h
    · rename_i h1; exact Rf.is_up h1
    · split at h
      · rename_i h1; exact Rf.is_up h1
      · cases h
theorem Rf.term_up {q : Rf} (h : q.term.2.ok = true) (ho : q.ok = true) : q.term.2 = q.step ∧ q.i < q.l.length := by
  unfold Rf.term at *
  cases hg : q.tok with
  | none => rw [hg] at h; simp [Rf.fail] at h
  | some t =>
    rw [hg] at h
    dsimp only at h ⊢
    split at h
    · rename_i h1
      rw [if_pos h1]
      refine ⟨rfl, ?_⟩
      unfold Rf.tok at hg
      cases hq : q.l[q.i]? with
      | none => rw [hq] at hg; cases hg
      | some u => exact (List.getElem?_eq_some_iff.1 hq).1
    · simp [Rf.fail] at h
/-- how the two stand behind an operand -/
def Beh (x : List Stp × Rd) (q : Rf) (f : Nat) (st : List (Option Int)) (l : List Stp) : Prop :=
  (x.2.over = true ∧ (Rf.exprF f q st l).2.1 = true) ∨
  (x.2.over = false ∧ x.2.isOpen = false ∧ ∃ q', Sim x.2 q' ∧ Rf.exprF f q st l = ([], false, q')) ∨
  (∃ f' q', Sim x.2 q' ∧ q'.ok = true ∧ q'.l = q.l ∧ q'.l.length < f' + 1 + q'.i ∧ q.i < q'.i ∧ Rf.exprF f q st l = Rf.contF (Rf.exprF f') q' st (l ++ x.1))
theorem beh_leaf {r : Rd} {q : Rf} {f : Nat} {st : List (Option Int)} {l : List Stp} (h : Sim r q) (ho : q.ok = true) (hf : q.l.length < f + q.i) (h1 : 1 ≤ f) (hs : q.is 5 [40] = false) : Beh ([⟨if r.term.1.v = [] then 2 else 1, r.term.1.v, r.term.1.x⟩], r.term.2) q f st l := by
  obtain ⟨t1, t2⟩ := h.term
  obtain ⟨f, rfl⟩ : ∃ g, f = g + 1 := ⟨f - 1, by omega⟩
  cases hok : q.term.2.ok with
  | true =>
    obtain ⟨e1, e2⟩ := Rf.term_up hok ho
    refine .inr (.inr ⟨f, q.term.2, t2, hok, by rw [e1]; rfl, by rw [e1]; show q.l.length < f + 1 + (q.i + 1); omega, by rw [e1]; show q.i < q.i + 1; omega, ?_⟩)
    rw [Rf.exprF, if_pos ho, if_neg (by rw [hs]; simp), if_pos hok, ← t1]
    rfl
  | false =>
    refine .inr (.inl ⟨t2.over, by rw [t2.isOpen, hok], q.term.2, t2, ?_⟩)
    rw [Rf.exprF, if_pos ho, if_neg (by rw [hs]; simp), if_neg (by rw [hok]; simp)]
theorem beh_part : ∀ (n : Nat) {r : Rd} {q : Rf} {f : Nat} {st : List (Option Int)} {l : List Stp}, Sim r q → q.ok = true → q.l.length < f + q.i → 1 ≤ f → st.length + n = 15 → Beh (r.part n) q f st l
  | 0, r, q, f, st, l, h, ho, hf, h1, hn => by
    have hsee := h.see ok40
    rw [ho, Bool.true_and] at hsee
    unfold Rd.part
    cases hs : q.is 5 [40] with
    | true =>
      rw [hs] at hsee
      rw [if_pos hsee]
      obtain ⟨f, rfl⟩ : ∃ g, f = g + 1 := ⟨f - 1, by omega⟩
      refine .inl ⟨rfl, ?_⟩
      rw [Rf.exprF, if_pos ho, if_pos hs, if_pos (by omega)]
    | false =>
      rw [hs] at hsee
      rw [if_neg (by rw [hsee]; simp)]
      exact beh_leaf h ho hf h1 hs
  | n + 1, r, q, f, st, l, h, ho, hf, h1, hn => by
    have hsee := h.see ok40
    rw [ho, Bool.true_and] at hsee
    unfold Rd.part
    cases hs : q.is 5 [40] with
    | false =>
      rw [hs] at hsee
      rw [if_neg (by rw [hsee]; simp)]
      exact beh_leaf h ho hf h1 hs
    | true =>
      rw [hs] at hsee
      rw [if_pos hsee]
      have hlt := Rf.is_up hs
      obtain ⟨f, rfl⟩ : ∃ g, f = g + 1 := ⟨f - 1, by omega⟩
      have e0 : Rf.exprF (f + 1) q st l = Rf.exprF f q.step (none :: st) l := by
        rw [Rf.exprF, if_pos ho, if_pos hs, if_neg (by omega)]
      have ql : q.step.l = q.l := rfl
      have qi : q.step.i = q.i + 1 := rfl
      have ih := beh_part n (l := l) (st := none :: st) (f := f) h.step (by exact ho) (by rw [ql, qi]; omega) (by omega) (by simp; omega)
      dsimp only
      generalize r.step.part n = a at *
      have hnot : ∀ {b : Rd}, b.isOpen = false → b.reckons = (0, b) := fun {b} hb => by
        unfold Rd.reckons Rd.see
        rw [hb]; simp
      rcases ih with ⟨c1, c2⟩ | ⟨c1, c2, q', c3, c4⟩ | ⟨f', q', c1, c2, c3, c4, c5, c6⟩
      · have hb : a.2.isOpen = false := by unfold Rd.isOpen; rw [c1]; simp
        rw [hnot hb]
        dsimp only
        rw [if_neg (by rw [hb]; simp)]
        exact .inl ⟨c1, by rw [e0]; exact c2⟩
      · rw [hnot c2]
        dsimp only
        rw [if_neg (by rw [c2]; simp)]
        exact .inr (.inl ⟨c1, c2, q', c3, by rw [e0]; exact c4⟩)
      · have hr := reck_sim c1 c2
        have e1 : Rf.contF (Rf.exprF f') q' (none :: st) (l ++ a.1) = match q'.signF with
            | some k => Rf.exprF f' q'.step (some k :: st) (l ++ a.1)
            | none => ([], false, q'.fail) := rfl
        rw [e1] at c6
        cases hsg : q'.signF with
        | none =>
          rw [hsg] at hr c6
          dsimp only at hr c6
          rw [hr]
          dsimp only
          rw [if_neg (by simp [Rd.isOpen, Rd.fail])]
          exact .inr (.inl ⟨c1.over, by simp [Rd.isOpen, Rd.fail], q'.fail, c1.fail, by rw [e0]; exact c6⟩)
        | some k =>
          rw [hsg] at hr c6
          dsimp only at hr c6
          rw [hr]
          dsimp only
          have hop : a.2.step.isOpen = true := by show a.2.isOpen = true; rw [c1.isOpen, c2]
          rw [if_pos hop]
          have hlt2 := Rf.sign_up hsg
          have ql' : q'.step.l = q'.l := rfl
          have qi' : q'.step.i = q'.i + 1 := rfl
          have qk' : q'.step.ok = q'.ok := rfl
          have ih2 := beh_part n (l := l ++ a.1) (st := some k :: st) (f := f') c1.step (by rw [qk']; exact c2) (by rw [ql', qi']; omega) (by omega) (by simp; omega)
          generalize a.2.step.part n = c at *
          rcases ih2 with ⟨d1, d2⟩ | ⟨d1, d2, q2, d3, d4⟩ | ⟨f2, q2, d1, d2, d3, d4, d5, d6⟩
          · have hb : c.2.isOpen = false := by unfold Rd.isOpen; rw [d1]; simp
            have hw : c.2.want 5 [41] = c.2 := by unfold Rd.want Rd.see; rw [hb]; simp
            rw [hw]
            exact .inl ⟨d1, by rw [e0, c6]; exact d2⟩
          · have hw : c.2.want 5 [41] = c.2 := by unfold Rd.want Rd.see; rw [d2]; simp
            rw [hw]
            exact .inr (.inl ⟨d1, d2, q2, d3, by rw [e0, c6]; exact d4⟩)
          · have hwt := d1.want ok41
            have e2 : Rf.contF (Rf.exprF f2) q2 (some k :: st) (l ++ a.1 ++ c.1) = if (q2.take 5 [41]).ok then Rf.contF (Rf.exprF f2) (q2.take 5 [41]) st (l ++ a.1 ++ c.1 ++ [⟨k, [], zeroV⟩]) else ([], false, q2.take 5 [41]) := by
              unfold Rf.contF
              rw [Rf.closeF]
              by_cases hq : (q2.take 5 [41]).ok = true
              · rw [if_pos hq, if_pos hq]
              · rw [if_neg hq, if_neg hq]
            rw [e2] at d6
            cases hok : (q2.take 5 [41]).ok with
            | false =>
              rw [hok, if_neg (by simp)] at d6
              exact .inr (.inl ⟨hwt.over, by rw [hwt.isOpen, hok], _, hwt, by rw [e0, c6]; exact d6⟩)
            | true =>
              rw [hok, if_pos rfl] at d6
              have hl2 := Rf.take_l q2 5 [41]
              refine .inr (.inr ⟨f2, q2.take 5 [41], hwt, hok, by rw [hl2.1, d3, ql', c3]; rfl, ?_, ?_, ?_⟩)
              · rw [hl2.1]; have := hl2.2; omega
              · have := hl2.2
                rw [qi'] at d5
                rw [qi] at c5
                omega
              · rw [e0, c6, d6]
                simp [List.append_assoc]
/-- an expression: the page's and the program's -/
theorem expr_sim {r : Rd} {q : Rf} {f : Nat} (h : Sim r q) (ho : q.ok = true) (hf : q.l.length < f + q.i) (h1 : 1 ≤ f) :
    (r.expr.2.over = true ∧ (Rf.exprF f q [] []).2.1 = true) ∨
    (r.expr.2.over = false ∧ r.expr.2.isOpen = false ∧ ∃ q', Sim r.expr.2 q' ∧ Rf.exprF f q [] [] = ([], false, q')) ∨
    (∃ q', Sim r.expr.2 q' ∧ q'.ok = true ∧ q'.l = q.l ∧ q.i < q'.i ∧ Rf.exprF f q [] [] = (r.expr.1, false, q') ∧ (r.wrong = false → r.expr.2.wrong = decide (15 < r.expr.1.length))) := by
  have hw : ∀ n (r : Rd), (r.part n).2.wrong = r.wrong := fun n => by
    induction n with
    | zero =>
      intro r
      unfold Rd.part
      split
      · rfl
      · dsimp only; unfold Rd.term
        split
        · split <;> rfl
        · rfl
    | succ n ih =>
      intro r
      unfold Rd.part
      have ht : ∀ r : Rd, r.term.2.wrong = r.wrong := fun r => by
        unfold Rd.term
        split
        · split <;> rfl
        · rfl
      have hk : ∀ r : Rd, r.reckons.2.wrong = r.wrong := fun r => by
        unfold Rd.reckons
        split
        · rfl
        · split
          · rfl
          · split
            · rfl
            · dsimp only; split <;> rfl
      have hv : ∀ (r : Rd) k t, (r.want k t).wrong = r.wrong := fun r k t => by
        unfold Rd.want
        split
        · rfl
        · split <;> rfl
      split
      · dsimp only
        split
        · dsimp only; rw [hv, ih, hk, ih]; rfl
        · dsimp only; rw [hk, ih]; rfl
      · dsimp only; rw [ht]
  have hb := beh_part 15 (r := r) (q := q) (f := f) (st := []) (l := []) h ho hf h1 rfl
  have hop : r.isOpen = true := by rw [h.isOpen]; exact ho
  unfold Rd.expr
  rw [if_pos hop]
  have hwp := hw 15 r
  generalize r.part 15 = x at *
  dsimp only
  have flag : ∀ (P : Rd → Prop), (∀ b, P { x.2 with wrong := b }) → P x.2 → P (if 15 < x.1.length then { x.2 with wrong := true } else x.2) := fun P h1 h2 => by
    split
    · exact h1 true
    · exact h2
  rcases hb with ⟨c1, c2⟩ | ⟨c1, c2, q', c3, c4⟩ | ⟨f', q', c1, c2, c3, c4, c5, c6⟩
  · exact .inl ⟨flag (fun y => y.over = true) (fun _ => c1) c1, c2⟩
  · refine .inr (.inl ⟨flag (fun y => y.over = false) (fun _ => c1) c1, flag (fun y => y.isOpen = false) (fun _ => c2) c2, q', flag (fun y => Sim y q') (fun b => c3.wrong b) c3, c4⟩)
  · refine .inr (.inr ⟨q', flag (fun y => Sim y q') (fun b => c1.wrong b) c1, c2, c3, c5, by rw [c6]; rfl, fun hz => ?_⟩)
    by_cases hl : 15 < x.1.length
    · rw [if_pos hl]; simp [hl]
    · rw [if_neg hl, hwp, hz]; simp [hl]
end Go.PV
