/- Part of the proof of TracePlaces. -/
import Derived.Test.YtfdopmapaaagoaaGreatDoorM4
import Derived.Lib.Join
namespace Go.PV
open Go
/-! the page's reader -/
structure Rf where
  l : List Tok
  i : Nat
  ok : Bool
abbrev Rf.ob (r : Rf) : Ob := .box 0 [.sl 4 (toksV r.l), .int .i64 r.i, .bool r.ok]
def refTerm (t : Tok) : Trm :=
  if t.k = 2 then ⟨t.t, zeroV⟩ else if t.k = 3 then ⟨[], ⟨1, (refNumS t.t).getD 0, []⟩⟩ else if t.k = 4 then ⟨[], ⟨3, 0, (refQuotedS t.t).1⟩⟩ else ⟨[], ⟨2, 0, t.t⟩⟩
def tokOk (t : Tok) : Bool := decide (1 ≤ t.k ∧ t.k ≤ 5) && refRight t.k t.t
namespace Rf
def tok (r : Rf) : Option Tok := match r.l[r.i]? with
  | some t => if tokOk t then some t else none
  | none => none
def is (r : Rf) (k : Int) (s : Bs) : Bool := match r.tok with
  | some t => decide (t.k = k) && decide (t.t = s)
  | none => false
def step (r : Rf) : Rf := { r with i := r.i + 1 }
def fail (r : Rf) : Rf := { r with ok := false }
def take (r : Rf) (k : Int) (s : Bs) : Rf := if r.ok && r.is k s then r.step else r.fail
def name (r : Rf) : Bs × Rf := match r.tok with
  | some t => if r.ok = true ∧ t.k = 1 ∧ nameS t.t = true then (t.t, r.step) else ([], r.fail)
  | none => ([], r.fail)
def num (r : Rf) : Int × Rf := match r.tok with
  | some t => if r.ok = true ∧ t.k = 3 then ((refNumS t.t).getD 0, r.step) else (0, r.fail)
  | none => (0, r.fail)
def term (r : Rf) : Trm × Rf := match r.tok with
  | some t => if r.ok = true ∧ t.k ≠ 5 then (refTerm t, r.step) else (zeroT, r.fail)
  | none => (zeroT, r.fail)
def args : Nat → Rf → List Trm × Rf
  | 0, r => ([], r)
  | f + 1, r => if r.ok && r.is 5 [44] then (r.step.term.1 :: (args f r.step.term.2).1, (args f r.step.term.2).2) else ([], r)
def atom (r : Rf) : Atm × Rf :=
  if r.name.2.ok && r.name.2.is 5 [40] then
    (⟨r.name.1, r.name.2.step.term.1 :: (args r.name.2.l.length r.name.2.step.term.2).1⟩, (args r.name.2.l.length r.name.2.step.term.2).2.take 5 [41])
  else (⟨r.name.1, []⟩, r.name.2)
end Rf
/-- the two readers stand alike -/
structure Sim (r : Rd) (q : Rf) : Prop where
  l : r.l = q.l
  i : r.i = q.i
  over : r.over = false
  bad : r.bad = !q.ok
namespace Sim
theorem isOpen {r : Rd} {q : Rf} (h : Sim r q) : r.isOpen = q.ok := by
  unfold Rd.isOpen; rw [h.bad, h.over]; cases q.ok <;> rfl
theorem step {r : Rd} {q : Rf} (h : Sim r q) : Sim r.step q.step := ⟨h.l, by show r.i + 1 = q.i + 1; rw [h.i], h.over, h.bad⟩
theorem fail {r : Rd} {q : Rf} (h : Sim r q) : Sim r.fail q.fail := ⟨h.l, h.i, h.over, rfl⟩
theorem cur {r : Rd} {q : Rf} (h : Sim r q) : r.cur = (q.l[q.i]?).map kt := by unfold Rd.cur; rw [h.l, h.i]
theorem see {r : Rd} {q : Rf} (h : Sim r q) {k : Int} {s : Bs} (hk : tokOk ⟨k, s, (0, 0)⟩ = true) : r.see k s = (q.ok && q.is k s) := by
  unfold Rd.see Rf.is Rf.tok
  rw [h.isOpen, h.cur]
  congr 1
  cases hg : q.l[q.i]? with
  | none => rfl
  | some t =>
    dsimp only [Option.map_some]
    by_cases e : t.k = k ∧ t.t = s
    · obtain ⟨e1, e2⟩ := e
      have ht : tokOk t = true := by unfold tokOk at hk ⊢; rw [e1, e2]; exact hk
      rw [ht, if_pos rfl]; simp [kt, e1, e2]
    · have e1 : decide (some (kt t) = some (k, s)) = false := by
        rw [decide_eq_false_iff_not]; intro h; simp only [Option.some.injEq, Prod.mk.injEq, kt] at h; exact e h
      rw [e1]
      split
      · rename_i u hu
        split at hu
        · cases hu
          symm; rw [Bool.and_eq_false_iff, decide_eq_false_iff_not, decide_eq_false_iff_not]
          by_cases h1 : t.k = k
          · exact .inr fun h2 => e ⟨h1, h2⟩
          · exact .inl h1
        · cases hu
      · rfl
theorem want {r : Rd} {q : Rf} (h : Sim r q) {k : Int} {s : Bs} (hk : tokOk ⟨k, s, (0, 0)⟩ = true) : Sim (r.want k s) (q.take k s) := by
  unfold Rd.want Rf.take
  rw [h.see hk]
  cases hq : q.ok && q.is k s with
  | true => exact h.step
  | false =>
    rw [if_neg (by simp)]
    cases ho : q.ok with
    | true => rw [if_pos (by rw [h.isOpen, ho])]; exact h.fail
    | false => rw [if_neg (by rw [h.isOpen, ho]; simp)]; exact ⟨h.l, h.i, h.over, by rw [h.bad, ho]; rfl⟩
theorem shut {r : Rd} {q : Rf} (h : Sim r q) (ho : q.ok = false) : Sim r q.fail := ⟨h.l, h.i, h.over, by rw [h.bad, ho]; rfl⟩
theorem name {r : Rd} {q : Rf} (h : Sim r q) : r.name.1 = q.name.1 ∧ Sim r.name.2 q.name.2 := by
  unfold Rd.name Rf.name Rf.tok
  rw [h.isOpen, h.cur]
  cases ho : q.ok with
  | false =>
    have hs := h.shut ho
    rw [if_neg (by simp)]
    split
    · rw [if_neg (by simp)]; exact ⟨rfl, hs⟩
    · exact ⟨rfl, hs⟩
  | true =>
    rw [if_pos rfl]
    cases hg : q.l[q.i]? with
    | none => exact ⟨rfl, h.fail⟩
    | some t =>
      dsimp only [Option.map_some]
      by_cases e : t.k = 1 ∧ nameS t.t = true
      · have ht : tokOk t = true := by
          unfold tokOk refRight; rw [e.1, if_pos rfl, nameS_word e.2]; rfl
        rw [if_pos e, ht, if_pos rfl]
        dsimp only
        rw [if_pos ⟨rfl, e⟩]
        exact ⟨rfl, h.step⟩
      · rw [if_neg e]
        split
        · rename_i u hu
          split at hu
          · cases hu
            rw [if_neg (fun x => e x.2)]
            exact ⟨rfl, h.fail⟩
          · cases hu
        · exact ⟨rfl, h.fail⟩
theorem tok1 (s : Bs) (p : Int × Int) : tokOk ⟨1, s, p⟩ = refWordS false s := by simp [tokOk, refRight]
theorem tok2 (s : Bs) (p : Int × Int) : tokOk ⟨2, s, p⟩ = varS s := by simp [tokOk, refRight, varS]
theorem tok3 (s : Bs) (p : Int × Int) : tokOk ⟨3, s, p⟩ = (refNumS s).isSome := by simp [tokOk, refRight]
theorem tok4 (s : Bs) (p : Int × Int) : tokOk ⟨4, s, p⟩ = (refQuotedS s).2 := by simp [tokOk, refRight]
theorem value (t : Tok) : valueS (kt t) = if tokOk t = true ∧ t.k ≠ 5 then some (refTerm t) else none := by
  obtain ⟨k, s, p⟩ := t
  show valueS (k, s) = _
  dsimp only
  by_cases h2 : k = 2
  · subst h2
    have e1 : valueS (2, s) = if varS s = true then some ⟨s, zeroV⟩ else none := rfl
    have e2 : refTerm ⟨2, s, p⟩ = ⟨s, zeroV⟩ := rfl
    rw [e1, e2, tok2]
    cases varS s
    · rw [if_neg (by simp), if_neg (by simp)]
    · rw [if_pos rfl, if_pos ⟨rfl, by omega⟩]
  by_cases h3 : k = 3
  · subst h3
    have e1 : valueS (3, s) = (numberS s).map fun v => ⟨[], v⟩ := rfl
    have e2 : refTerm ⟨3, s, p⟩ = ⟨[], ⟨1, (refNumS s).getD 0, []⟩⟩ := rfl
    rw [e1, e2, tok3, number_ref]
    cases refNumS s with
    | none => rw [if_neg (by simp)]; rfl
    | some n => rw [if_pos ⟨rfl, by omega⟩]; rfl
  have e1 : valueS (k, s) = match parseS s with
    | some v => if (k = 1 ∧ v.k = 2) ∨ (k = 4 ∧ v.k = 3) then some ⟨[], v⟩ else none
    | none => none := by unfold valueS; rw [if_neg h2, if_neg h3]; rfl
  rw [e1]
  by_cases h1 : k = 1
  · subst h1
    have e2 : refTerm ⟨1, s, p⟩ = ⟨[], ⟨2, 0, s⟩⟩ := rfl
    rw [e2, tok1]
    cases hw : refWordS false s with
    | true =>
      rw [← symbol_word] at hw
      rw [parse_sym hw, if_pos ⟨rfl, by omega⟩]
      dsimp only
      rw [if_pos (.inl ⟨rfl, rfl⟩)]
    | false =>
      rw [if_neg (by simp)]
      cases hp : parseS s with
      | none => rfl
      | some v =>
        dsimp only
        rw [if_neg]
        rintro (⟨_, h⟩ | ⟨h, _⟩)
        · obtain ⟨c1, c2⟩ := parse_some hp
          rcases check_cases c1 with ⟨c, _⟩ | ⟨_, _, c3, c4⟩ | ⟨c, _⟩
          · omega
          · rw [c4] at c2; rw [c2, symbol_word, hw] at c3; cases c3
          · omega
        · omega
  by_cases h4 : k = 4
  · subst h4
    have e2 : refTerm ⟨4, s, p⟩ = ⟨[], ⟨3, 0, (refQuotedS s).1⟩⟩ := rfl
    rw [e2, tok4]
    have hq := quoted_ref (t := s)
    cases hr : (refQuotedS s).2 with
    | true =>
      obtain ⟨v, hv, hk⟩ := hq.1.1 hr
      rw [hv, if_pos ⟨rfl, by omega⟩]
      dsimp only
      rw [if_pos (.inr ⟨rfl, hk⟩), hq.2 v hv hk]
    | false =>
      rw [if_neg (by simp)]
      cases hp : parseS s with
      | none => rfl
      | some v =>
        dsimp only
        rw [if_neg]
        rintro (⟨h, _⟩ | ⟨_, h⟩)
        · omega
        · rw [hq.1.2 ⟨v, hp, h⟩] at hr; cases hr
  have h5 : ¬ (tokOk ⟨k, s, p⟩ = true ∧ k ≠ 5) := by
    rintro ⟨h, h5⟩
    unfold tokOk at h
    rw [Bool.and_eq_true, decide_eq_true_eq] at h
    have := h.1
    dsimp only at this
    omega
  rw [if_neg h5]
  cases parseS s with
  | none => rfl
  | some v => dsimp only; rw [if_neg (by omega)]
theorem term {r : Rd} {q : Rf} (h : Sim r q) : r.term.1 = q.term.1 ∧ Sim r.term.2 q.term.2 := by
  unfold Rd.term Rf.term Rf.tok
  rw [h.isOpen, h.cur]
  cases ho : q.ok with
  | false =>
    have hs := h.shut ho
    rw [if_neg (by simp)]
    split
    · rw [if_neg (by simp)]; exact ⟨rfl, hs⟩
    · exact ⟨rfl, hs⟩
  | true =>
    rw [if_pos rfl]
    cases hg : q.l[q.i]? with
    | none => exact ⟨rfl, h.fail⟩
    | some t =>
      dsimp only [Option.map_some, Option.bind_some]
      rw [value]
      by_cases e : tokOk t = true ∧ t.k ≠ 5
      · rw [if_pos e, e.1, if_pos rfl]
        dsimp only
        rw [if_pos ⟨rfl, e.2⟩]
        exact ⟨rfl, h.step⟩
      · rw [if_neg e]
        dsimp only
        split
        · rename_i u hu
          split at hu
          · rename_i h1
            cases hu
            rw [if_neg (fun x => e ⟨h1, x.2⟩)]
            exact ⟨rfl, h.fail⟩
          · cases hu
        · exact ⟨rfl, h.fail⟩
theorem num {r : Rd} {q : Rf} (h : Sim r q) : r.num.1 = q.num.1 ∧ Sim r.num.2 q.num.2 := by
  unfold Rd.num Rf.num Rf.tok
  rw [h.isOpen, h.cur]
  cases ho : q.ok with
  | false =>
    have hs := h.shut ho
    rw [if_neg (by simp)]
    split
    · rw [if_neg (by simp)]; exact ⟨rfl, hs⟩
    · exact ⟨rfl, hs⟩
  | true =>
    rw [if_pos rfl]
    cases hg : q.l[q.i]? with
    | none => exact ⟨rfl, h.fail⟩
    | some t =>
      dsimp only [Option.map_some]
      by_cases h3 : t.k = 3
      · rw [if_pos h3, number_ref]
        have e : tokOk t = (refNumS t.t).isSome := by unfold tokOk refRight; rw [h3]; simp
        rw [e]
        cases hn : refNumS t.t with
        | none => exact ⟨rfl, h.fail⟩
        | some n =>
          dsimp only [Option.map_some, Option.isSome_some]
          rw [if_pos rfl]
          dsimp only
          rw [if_pos ⟨rfl, h3⟩, hn]
          exact ⟨rfl, h.step⟩
      · rw [if_neg h3]
        dsimp only
        split
        · rename_i u hu
          split at hu
          · cases hu
            rw [if_neg (fun x => h3 x.2)]
            exact ⟨rfl, h.fail⟩
          · cases hu
        · exact ⟨rfl, h.fail⟩
theorem args : ∀ (f : Nat) {r : Rd} {q : Rf}, Sim r q → (Rd.args f r).1 = (Rf.args f q).1 ∧ Sim (Rd.args f r).2 (Rf.args f q).2
  | 0, r, q, h => ⟨rfl, h⟩
  | f + 1, r, q, h => by
    unfold Rd.args Rf.args
    rw [h.see (by decide +kernel)]
    cases q.ok && q.is 5 [44] with
    | false => exact ⟨rfl, h⟩
    | true =>
      rw [if_pos rfl, if_pos rfl]
      have h1 := h.step.term
      have h2 := args f h1.2
      exact ⟨by dsimp only; rw [h1.1, h2.1], h2.2⟩
theorem wrong {r : Rd} {q : Rf} (h : Sim r q) (b : Bool) : Sim { r with wrong := b } q := ⟨h.l, h.i, h.over, h.bad⟩
theorem args_w : ∀ (f : Nat) (r : Rd), (Rd.args f r).2.wrong = r.wrong
  | 0, r => rfl
  | f + 1, r => by
    unfold Rd.args
    split
    · dsimp only
      rw [args_w f]
      show r.step.term.2.wrong = r.wrong
      unfold Rd.term
      split
      · split <;> rfl
      · rfl
    · rfl
/-- an atom: the same; too many arguments are cut off -/
theorem atom {r : Rd} {q : Rf} (h : Sim r q) : r.atom.1 = ⟨q.atom.1.n, q.atom.1.a.take 5⟩ ∧ Sim r.atom.2 q.atom.2 ∧ (r.wrong = false → r.atom.2.wrong = decide (5 < q.atom.1.a.length)) := by
  have h1 := h.name
  have hw : r.name.2.wrong = r.wrong := by
    unfold Rd.name
    split
    · split
      · split <;> rfl
      · rfl
    · rfl
  have hs := h1.2.see (k := 5) (s := [40]) (by decide +kernel)
  cases hq : q.name.2.ok && q.name.2.is 5 [40] with
  | false =>
    rw [hq] at hs
    rw [Rd.atom_no hs]
    unfold Rf.atom; rw [hq, if_neg (by simp)]
    exact ⟨by rw [h1.1]; rfl, h1.2, fun h0 => by dsimp only; rw [hw, h0]; rfl⟩
  | true =>
    rw [hq] at hs
    rw [Rd.atom_yes hs]
    unfold Rf.atom; rw [hq, if_pos rfl]
    have h2 := h1.2.step.term
    have hl : r.name.2.l.length = q.name.2.l.length := by rw [h1.2.l]
    have h3 := args q.name.2.l.length h2.2
    have h4 := h3.2.want (k := 5) (s := [41]) (by decide +kernel)
    rw [hl]
    refine ⟨by dsimp only; rw [h1.1, h2.1, h3.1], ?_, fun h0 => ?_⟩
    · split
      · exact h4.wrong true
      · exact h4
    · have hww : ∀ (x : Rd) k s, (x.want k s).wrong = x.wrong := fun x k s => by
        unfold Rd.want; split
        · rfl
        · split <;> rfl
      have ht : r.name.2.step.term.2.wrong = r.wrong := by
        rw [← hw]
        unfold Rd.term
        split
        · split <;> rfl
        · rfl
      rw [h3.1]
      dsimp only
      rw [List.length_cons]
      split
      · rename_i h5; rw [decide_eq_true h5]
      · rename_i h5; rw [hww, args_w, ht, h0, decide_eq_false h5]
end Sim
namespace Rf
theorem name_l (r : Rf) : r.name.2.l = r.l ∧ r.i ≤ r.name.2.i := by
  unfold name
  split
  · split
    · exact ⟨rfl, Nat.le_succ _⟩
    · exact ⟨rfl, Nat.le_refl _⟩
  · exact ⟨rfl, Nat.le_refl _⟩
theorem term_l (r : Rf) : r.term.2.l = r.l ∧ r.i ≤ r.term.2.i ∧ r.term.2.i ≤ r.i + 1 := by
  unfold term
  split
  · split
    · exact ⟨rfl, Nat.le_succ _, Nat.le_refl _⟩
    · exact ⟨rfl, Nat.le_refl _, Nat.le_succ _⟩
  · exact ⟨rfl, Nat.le_refl _, Nat.le_succ _⟩
theorem num_l (r : Rf) : r.num.2.l = r.l ∧ r.i ≤ r.num.2.i := by
  unfold num
  split
  · split
    · exact ⟨rfl, Nat.le_succ _⟩
    · exact ⟨rfl, Nat.le_refl _⟩
  · exact ⟨rfl, Nat.le_refl _⟩
theorem take_l (r : Rf) (k : Int) (s : Bs) : (r.take k s).l = r.l ∧ r.i ≤ (r.take k s).i := by
  unfold take
  split
  · exact ⟨rfl, Nat.le_succ _⟩
  · exact ⟨rfl, Nat.le_refl _⟩
end Rf
/-- an atom at a place, as the page reads it -/
def refReadA (l : List Tok) (i : Nat) : Atm × Nat × Int :=
  let x := (⟨l, i, true⟩ : Rf).atom
  if x.2.ok then (if atomOk x.1 then (x.1, x.2.i, 0) else (zeroA, i, 7)) else (zeroA, x.2.i, 7)
theorem Rd.atom_le {r : Rd} (h : r.i ≤ r.l.length) : r.atom.2.i ≤ r.l.length := by
  have hname : r.name.2.i ≤ r.l.length := by
    unfold Rd.name
    split
    · split
      · rename_i x hx
        split
        · exact Rd.cur_lt hx
        · exact h
      · exact h
    · exact h
  have hl := (Rd.name_l r).1
  have hterm : ∀ q : Rd, q.i ≤ q.l.length → q.term.2.i ≤ q.l.length := fun q hq => by
    unfold Rd.term
    split
    · split
      · rename_i t ht
        rw [Option.bind_eq_some_iff] at ht
        obtain ⟨x, h1, _⟩ := ht
        exact Rd.cur_lt h1
      · exact hq
    · exact hq
  have hargs : ∀ (f : Nat) (q : Rd), q.i ≤ q.l.length → (Rd.args f q).2.i ≤ q.l.length := by
    intro f
    induction f with
    | zero => intro q hq; exact hq
    | succ f ih =>
      intro q hq
      unfold Rd.args
      split
      · rename_i hs
        have h1 := Rd.cur_lt (Rd.see_open hs).2
        have h2 := hterm q.step h1
        have h3 := (Rd.term_l q.step).1
        have := ih q.step.term.2 (by rw [h3]; exact h2)
        rw [h3] at this
        exact this
      · exact hq
  have hwant : ∀ (q : Rd) k s, q.i ≤ q.l.length → (q.want k s).i ≤ q.l.length := fun q k s hq => by
    unfold Rd.want
    split
    · rename_i hs; exact Rd.cur_lt (Rd.see_open hs).2
    · split <;> exact hq
  cases hs : r.name.2.see 5 [40] with
  | false => rw [Rd.atom_no hs]; exact hname
  | true =>
    rw [Rd.atom_yes hs]
    have h1 := Rd.cur_lt (Rd.see_open hs).2
    have h2 := hterm r.name.2.step h1
    have h3 := (Rd.term_l r.name.2.step).1
    have h4 := hargs r.name.2.l.length r.name.2.step.term.2 (by rw [h3]; exact h2)
    have h5 := (Rd.args_l r.name.2.l.length r.name.2.step.term.2).1
    have h6 := hwant (Rd.args r.name.2.l.length r.name.2.step.term.2).2 5 [41] (by rw [h5]; exact h4)
    rw [h5, h3] at h6
    have h7 : r.name.2.step.l.length = r.l.length := by show r.name.2.l.length = _; rw [hl]
    rw [h7] at h6
    dsimp only
    split <;> exact h6
theorem readA_ref {l : List Tok} {i : Nat} (hi : i ≤ l.length) : readA l i = refReadA l i := by
  have h : Sim (rd0 l i) ⟨l, i, true⟩ := ⟨rfl, rfl, rfl, rfl⟩
  obtain ⟨h1, h2, h3⟩ := h.atom
  have h3 := h3 rfl
  have hle := Rd.atom_le (r := rd0 l i) hi
  have hal : (rd0 l i).atom.2.l = l := (Rd.atom_l (rd0 l i)).1
  have hop := Rd.atom_open (r := rd0 l i)
  unfold readA refReadA
  dsimp only
  unfold Rd.endE Rd.endI
  generalize (rd0 l i).atom = x at *
  generalize (⟨l, i, true⟩ : Rf).atom = y at *
  rw [h2.bad, h2.over, h3]
  have hx : (x.2.i : Nat) = y.2.i := h2.i
  cases ho : y.2.ok with
  | false =>
    simp only [Bool.not_false, Bool.true_or, if_true]
    rw [if_neg (by omega), if_neg (by simp), hal, ← hx, Nat.min_eq_left hle]
  | true =>
    by_cases h5 : 5 < y.1.a.length
    · have : atomOk y.1 = false := by unfold atomOk; rw [decide_eq_false (by omega)]; simp
      simp only [decide_eq_true h5, Bool.not_true, Bool.false_or, if_true, Bool.false_eq_true, if_false, this]
      rw [if_neg (by omega)]
    · have hy : x.1 = y.1 := by rw [h1, List.take_of_length_le (by omega)]
      have hok : atomOk y.1 = true := by
        rw [← hy]
        refine (hop (by rw [h2.isOpen, ho])).1 (by rw [h3, decide_eq_false h5]) rfl
      simp only [decide_eq_false h5, Bool.not_true, Bool.false_or, Bool.false_eq_true, if_false, hok, if_true]
      rw [hy, hx]
end Go.PV
namespace Go.PV
open Go
/-! facts, traces -/
structure Fct where
  n : Bs
  a : List Val
abbrev valV (l : List Val) : List (List V) := l.map Val.c
abbrev Fct.c (f : Fct) : List V := [.str f.n, .sl 3 (valV f.a)]
abbrev fctV (l : List Fct) : List (List V) := l.map Fct.c
instance : DecidableEq Fct := fun a b => decidable_of_iff (a.n = b.n ∧ a.a = b.a) (by cases a; cases b; simp)
def zeroF : Fct := ⟨[], []⟩
def Fct.at (f : Fct) : Atm := ⟨f.n, f.a.map fun v => ⟨[], v⟩⟩
def Atm.gr (a : Atm) : Fct := ⟨a.n, a.a.map Trm.x⟩
def factOk (f : Fct) : Bool := nameS f.n && decide (f.a.length ≤ 5) && f.a.all checkS
theorem at_gr (f : Fct) : f.at.gr = f := by
  obtain ⟨n, a⟩ := f
  simp only [Fct.at, Atm.gr, List.map_map]
  congr 1
  exact (List.map_congr_left fun v _ => rfl).trans (List.map_id' a)
theorem at_ok (f : Fct) : atomOk f.at = factOk f := by
  unfold atomOk factOk Fct.at
  dsimp only
  rw [List.length_map, List.all_map]
  congr 2
theorem at_inj {f g : Fct} (h : f.at = g.at) : f = g := by rw [← at_gr f, h, at_gr]
def free (a : Atm) : Bool := a.a.all fun t => decide (t.v = [])
theorem gr_at {a : Atm} (h : free a = true) : a.gr.at = a := by
  obtain ⟨n, l⟩ := a
  simp only [Fct.at, Atm.gr, List.map_map]
  congr 1
  refine (List.map_congr_left (g := id) fun t ht => ?_).trans (List.map_id l)
  have := List.all_eq_true.1 h t ht
  obtain ⟨v, x⟩ := t
  have : v = [] := by simpa using this
  subst this; rfl
theorem at_free (f : Fct) : free f.at = true := by
  unfold free Fct.at; rw [List.all_eq_true]; intro t ht
  obtain ⟨v, _, rfl⟩ := List.mem_map.1 ht; rfl
def factT (f : Fct) : Bs := atomT f.at
theorem factT_len {f : Fct} (h : factOk f = true) : (factT f).length ≤ 700 := atomT_len (by rw [at_ok]; exact h)
def traceT (l : List Fct) : Bs := l.flatMap fun f => factT f ++ [46, 10]
def traceOk (l : List Fct) : Int := if 200 < l.length then 2 else if l.all factOk then 0 else 1
/-- its signs -/
def traceK : Bs → List Fct → List (Bs × KT)
  | _, [] => []
  | b, f :: r => atomK b f.at ++ ([], (5, [46])) :: traceK [10] r
theorem weaveK_atomK (b : Bs) (a : Atm) : weaveK (atomK b a) = b ++ atomT a := by
  unfold atomT atomK; simp [weaveK]
theorem weave_trace : ∀ (l : List Fct) (b : Bs), l ≠ [] → weaveK (traceK b l) ++ [10] = b ++ traceT l
  | [], b, h => absurd rfl h
  | f :: r, b, _ => by
    have e : weaveK (traceK b (f :: r)) = b ++ (factT f ++ ([46] ++ weaveK (traceK [10] r))) := by
      rw [traceK, weaveK_app, weaveK_atomK]; simp [weaveK, factT]
    rw [e]
    cases r with
    | nil => simp [traceK, weaveK, traceT]
    | cons g r =>
      have ih := weave_trace (g :: r) [10] (by simp)
      have e2 : traceT (f :: g :: r) = factT f ++ [46, 10] ++ traceT (g :: r) := by simp [traceT]
      rw [e2]
      simp only [List.append_assoc]
      rw [ih]; simp
theorem wov_trace : ∀ (l : List Fct) (b tail : Bs), l.all factOk = true → blk b = true → stopH tail = true → WovK tail (traceK b l)
  | [], b, tail, _, _, _ => trivial
  | f :: r, b, tail, h, hb, ht => by
    rw [List.all_cons, Bool.and_eq_true] at h
    rw [traceK]
    refine WovK.app (wov_atom rfl hb (by rw [at_ok]; exact h.1)) ⟨rfl, rfl, ?_, wov_trace r [10] tail h.2 rfl ht⟩
    cases r with
    | nil => exact okEnd_stop ht
    | cons g r =>
      refine okEnd_stop ?_
      have : weaveK (traceK [10] (g :: r)) ++ tail = 10 :: (atomT g.at ++ (weaveK (([], (5, [46])) :: traceK [10] r) ++ tail)) := by
        rw [traceK, weaveK_app, weaveK_atomK]; simp
      rw [this]; rfl
/-- an event, read -/
def eventS (l : List Tok) (i : Nat) : Fct × Nat × Int :=
  let x := readA l i
  if x.2.2 ≠ 0 then (zeroF, x.2.1, 7)
  else if free x.1 = false then (zeroF, i, 7)
  else match l[x.2.1]? with
    | some t => if t.k = 5 ∧ t.t = [46] then (x.1.gr, x.2.1 + 1, 0) else (zeroF, x.2.1, 7)
    | none => (zeroF, x.2.1, 7)
def placeT (l : List Tok) (i : Nat) : Int × Int := match l[i]? with
  | some t => t.p
  | none => match l.getLast? with
    | some t => (t.p.1, t.p.2 + 1)
    | none => (0, 0)
theorem eventS_ok {l : List Tok} {i : Nat} (h : (eventS l i).2.2 = 0) : factOk (eventS l i).1 = true ∧ i < (eventS l i).2.1 ∧ (eventS l i).2.1 ≤ l.length := by
  unfold eventS at *
  dsimp only at h ⊢
  by_cases h0 : (readA l i).2.2 = 0
  · obtain ⟨k1, k2, k3⟩ := readA_ok h0
    rw [if_neg (by omega)] at h ⊢
    cases hf : free (readA l i).1 with
    | false => rw [hf, if_pos rfl] at h; cases h
    | true =>
      rw [hf, if_neg (by simp)] at h
      rw [if_neg (by simp)]
      cases hg : l[(readA l i).2.1]? with
      | none => rw [hg] at h; cases h
      | some t =>
        rw [hg] at h
        dsimp only at h ⊢
        have hlt := (List.getElem?_eq_some_iff.1 hg).1
        split at h
        · rename_i ht
          rw [if_pos ht]
          refine ⟨?_, by dsimp only; omega, by dsimp only; omega⟩
          rw [← at_ok, gr_at hf]; exact k1
        · cases h
  · rw [if_pos h0] at h; cases h
theorem eventS_place {l : List Tok} {i : Nat} (h : i ≤ l.length) : i ≤ (eventS l i).2.1 ∧ (eventS l i).2.1 ≤ l.length ∧ ((eventS l i).2.2 = 0 ∨ (eventS l i).2.2 = 7) := by
  have hp := readA_place h
  unfold eventS
  dsimp only
  split
  · exact ⟨hp.1, hp.2.1, .inr rfl⟩
  · split
    · exact ⟨Nat.le_refl _, h, .inr rfl⟩
    · split
      · rename_i t hg
        have hlt := (List.getElem?_eq_some_iff.1 hg).1
        split
        · exact ⟨by dsimp only; omega, by dsimp only; omega, .inl rfl⟩
        · exact ⟨hp.1, hp.2.1, .inr rfl⟩
      · exact ⟨hp.1, hp.2.1, .inr rfl⟩
/-- the events from a place on: what is read, where the first one too many begins, where it falls -/
def traceGo (l : List Tok) : Nat → Nat → List Fct × Option Nat
  | 0, _ => ([], none)
  | f + 1, i => if i < l.length then
      let x := eventS l i
      if x.2.2 = 0 then (x.1 :: (traceGo l f x.2.1).1, (traceGo l f x.2.1).2) else ([], some x.2.1)
    else ([], none)
/-- where the n-th event begins -/
def traceAt (l : List Tok) : Nat → Nat → Nat
  | 0, i => i
  | n + 1, i => traceAt l n (eventS l i).2.1
def parseT (s : Bs) : List Fct × (Int × Int) × Int :=
  if errR s = 0 then
    let l := toksR s
    let x := traceGo l l.length 0
    match x.2 with
    | some n => ([], placeT l n, 7)
    | none => if 200 < x.1.length then ([], placeT l (traceAt l 200 0), 2) else (x.1, (0, 0), 0)
  else ([], posR s, errR s)
end Go.PV
namespace Go.PV
open Go Go.Proofs
set_option maxRecDepth 100000
theorem in9_good (a b c : Int) : Good Tryz.prog 77 [.int .i64 a, .int .i64 b, .int .i64 c] [] [.bool (decide (b ≤ a ∧ a ≤ c))] [] := by
  refine good_of hP Tryz.func77 (by kernel_rfl) (lv := [0, 1, 2, 6]) (js := []) ⟨rfl, rfl, rfl, rfl, rfl, rfl, _, rfl, ?_⟩
  conv => whnf
  refine branch_of (fun h => ?_) (fun h => ?_)
  · have h := of_decide_eq_true h
    conv => whnf
    exact fin0 (by rw [show decide (b ≤ a ∧ a ≤ c) = decide (a ≤ c) from by rw [decide_eq_decide]; omega]) trivial
  · have h := of_decide_eq_false h
    conv => whnf
    exact fin0 (by rw [decide_eq_false (by omega)]) trivial
theorem words_good : Good Tryz.prog 147 [] [] [.sl 1 (strV wordsL)] [] := by
  refine good_of hP Tryz.func147 (by kernel_rfl) (lv := [0]) (js := []) ⟨rfl, rfl, rfl, rfl, rfl, rfl, _, rfl, ?_⟩
  conv => whnf
  exact fin0 rfl trivial
theorem refName_good (s : Bs) (hs : s.length ≤ 1000000) : Good Tryz.prog 85 [.str s] [] [.bool (nameS s)] [] := by
  refine good_of hP Tryz.func85 (by kernel_rfl) (lv := [0, 2, 3, 4, 7, 12, 20]) (js := []) ⟨rfl, rfl, rfl, rfl, rfl, rfl, _, rfl, ?_⟩
  unfold nameS
  conv => whnf
  refine call0 (word_good s false hs) ?_
  cases hw : refWordS false s with
  | false =>
    conv => whnf
    exact fin0 rfl trivial
  | true =>
  rw [Bool.true_and]
  conv => whnf
  refine call0 (words_good) ?_
  conv => whnf
  have hL : wordsL.length = 11 := rfl
  generalize wordsL = L at *
  refine loop_of hP [0, 2, 3, 4, 7, 12, 20] [] [0, 2, 3, 4] [] [] (fun n st => ∃ k : Nat, n = 11 - k ∧ k ≤ 11 ∧ (∀ j (h : j < L.length), j < k → L[j] ≠ s) ∧ st = ⟨[(0, .str s), (2, .bool false), (3, .sl 1 (strV L)), (4, .int .i64 k)], []⟩) 11 ?_ ?_
  · conv => whnf
    exact ⟨0, rfl, by omega, fun j _ h => by omega, rfl⟩
  · rintro n st ⟨k, rfl, hk, hn, rfl⟩
    conv => whnf
    refine branch_of (fun h => ?_) (fun h => ?_)
    · have h := of_decide_eq_true h
      rw [List.length_map] at h
      have hk' : k < L.length := by omega
      conv => whnf
      refine ⟨[.str L[k]], idxM hk' rfl, ?_⟩
      conv => whnf
      refine branch_of (fun h2 => ?_) (fun h2 => ?_)
      · have h2 := of_decide_eq_true h2
        have : decide (s ∈ L) = true := by rw [decide_eq_true_iff, ← h2]; exact List.getElem_mem hk'
        rw [this]
        conv => whnf
        exact fin0 rfl trivial
      · have h2 := of_decide_eq_false h2
        conv => whnf
        refine ⟨11 - (k + 1), by omega, k + 1, rfl, by omega, fun j hj hjk => ?_, ?_⟩
        · by_cases e : j = k
          · subst e; exact h2
          · exact hn j hj (by omega)
        · rw [wr (by omega) (by omega)]; rfl
    · have h := of_decide_eq_false h
      rw [List.length_map] at h
      have : decide (s ∈ L) = false := by
        rw [decide_eq_false_iff_not]; intro hm
        obtain ⟨j, hj, e⟩ := List.getElem_of_mem hm
        exact hn j hj (by omega) e
      rw [this]
      conv => whnf
      exact fin0 rfl trivial
theorem refTerm_good (t : Trm) (h1 : t.v.length ≤ 1000000) (h2 : t.x.s.length ≤ 1000000) : Good Tryz.prog 86 [.agg t.c] [] [.bool (termOk t)] [] := by
  obtain ⟨v, x⟩ := t
  dsimp only at h1 h2
  refine good_of hP Tryz.func86 (by kernel_rfl) (lv := [0, 1, 2, 6]) (js := []) ⟨rfl, rfl, rfl, rfl, rfl, rfl, _, rfl, ?_⟩
  unfold termOk
  dsimp only
  conv => whnf
  refine branch_of (fun h => ?_) (fun h => ?_)
  · have h := of_decide_eq_true h
    have hv : v ≠ [] := by rintro rfl; exact absurd h (show ¬ (0 : Int) < 0 by omega)
    rw [if_neg hv]
    conv => whnf
    refine call0 (word_good v true h1) ?_
    have ev : varS v = refWordS true v := rfl
    rw [← ev]
    cases varS v with
    | false =>
      conv => whnf
      exact fin0 rfl trivial
    | true =>
      conv => whnf
      refine ⟨_, (eqVal x zeroV).1, ?_⟩
      conv => whnf
      exact fin0 rfl trivial
  · have h := of_decide_eq_false h
    have hv : v = [] := List.eq_nil_of_length_eq_zero (by dsimp only at h; omega)
    rw [if_pos hv]
    conv => whnf
    refine call0 (refValue_good x h2) ?_
    conv => whnf
    exact fin0 rfl trivial
/-- what is played of atoms -/
def atmL (a : Atm) : Prop := a.n.length ≤ 1000000 ∧ ∀ t ∈ a.a, t.v.length ≤ 1000000 ∧ t.x.s.length ≤ 1000000
theorem refAtom_good (a : Atm) (hb : atmL a) : Good Tryz.prog 34 [.agg a.c] [] [.bool (atomOk a)] [] := by
  obtain ⟨n, l⟩ := a
  obtain ⟨h1, h2⟩ := hb
  dsimp only at h1 h2
  refine good_of hP Tryz.func34 (by kernel_rfl) (lv := [0, 1, 2, 3, 13, 18, 27]) (js := []) ⟨rfl, rfl, rfl, rfl, rfl, rfl, _, rfl, ?_⟩
  unfold atomOk
  dsimp only
  conv => whnf
  refine call0 (refName_good n h1) ?_
  cases hn : nameS n with
  | false =>
    conv => whnf
    exact fin0 rfl trivial
  | true =>
  rw [Bool.true_and]
  conv => whnf
  refine branch_of (fun h => ?_) (fun h => ?_)
  · have h := of_decide_eq_true h
    rw [List.length_map] at h
    dsimp only at h
    have e : decide (l.length ≤ 5) = false := decide_eq_false (by omega)
    rw [e, Bool.false_and]
    conv => whnf
    exact fin0 rfl trivial
  have h := of_decide_eq_false h
  rw [List.length_map] at h
  dsimp only at h
  have e : decide (l.length ≤ 5) = true := decide_eq_true (by omega)
  rw [e, Bool.true_and]
  conv => whnf
  refine loop_of hP [0, 1, 2, 3, 13, 18, 27] [] [1, 2, 3] [65] [] (fun m st => ∃ k : Nat, m = l.length - k ∧ k ≤ l.length ∧ l.all termOk = (l.drop k).all termOk ∧ st = ⟨[(1, .ptr 65 0 0), (2, .bool false), (3, .int .i64 k)], [(65, .box 0 (Atm.c ⟨n, l⟩))]⟩) l.length ?_ ?_
  · conv => whnf
    exact ⟨0, rfl, Nat.zero_le _, rfl, rfl⟩
  · rintro m st ⟨k, rfl, hk, he, rfl⟩
    conv => whnf
    refine branch_of (fun g => ?_) (fun g => ?_)
    · have g := of_decide_eq_true g
      rw [List.length_map] at g
      have hk' : k < l.length := by dsimp only at g; omega
      rw [List.drop_eq_getElem_cons hk', List.all_cons] at he
      conv => whnf
      refine ⟨Trm.c l[k], idxM hk' rfl, ?_⟩
      conv => whnf
      refine call0 (refTerm_good l[k] (h2 _ (List.getElem_mem hk')).1 (h2 _ (List.getElem_mem hk')).2) ?_
      cases ht : termOk l[k] with
      | false =>
        rw [ht, Bool.false_and] at he
        rw [he]
        conv => whnf
        exact fin0 rfl trivial
      | true =>
        rw [ht, Bool.true_and] at he
        conv => whnf
        refine ⟨l.length - (k + 1), by omega, k + 1, rfl, by omega, he, ?_⟩
        rw [wr (by omega) (by omega)]; rfl
    · have g := of_decide_eq_false g
      rw [List.length_map] at g
      have hd : l.drop k = [] := List.drop_eq_nil_iff.2 (by dsimp only at g; omega)
      rw [hd] at he
      rw [he]
      conv => whnf
      exact fin0 rfl trivial
theorem refFact_good (f : Fct) (h1 : f.n.length ≤ 1000000) (h2 : ∀ v ∈ f.a, v.s.length ≤ 1000000) : Good Tryz.prog 74 [.agg f.c] [] [.bool (factOk f)] [] := by
  obtain ⟨n, l⟩ := f
  dsimp only at h1 h2
  refine good_of hP Tryz.func74 (by kernel_rfl) (lv := [0, 1, 2, 3, 13, 18, 27]) (js := []) ⟨rfl, rfl, rfl, rfl, rfl, rfl, _, rfl, ?_⟩
  unfold factOk
  dsimp only
  conv => whnf
  refine call0 (refName_good n h1) ?_
  cases hn : nameS n with
  | false =>
    conv => whnf
    exact fin0 rfl trivial
  | true =>
  rw [Bool.true_and]
  conv => whnf
  refine branch_of (fun h => ?_) (fun h => ?_)
  · have h := of_decide_eq_true h
    rw [List.length_map] at h
    dsimp only at h
    have e : decide (l.length ≤ 5) = false := decide_eq_false (by omega)
    rw [e, Bool.false_and]
    conv => whnf
    exact fin0 rfl trivial
  have h := of_decide_eq_false h
  rw [List.length_map] at h
  dsimp only at h
  have e : decide (l.length ≤ 5) = true := decide_eq_true (by omega)
  rw [e, Bool.true_and]
  conv => whnf
  refine loop_of hP [0, 1, 2, 3, 13, 18, 27] [] [1, 2, 3] [65] [] (fun m st => ∃ k : Nat, m = l.length - k ∧ k ≤ l.length ∧ l.all checkS = (l.drop k).all checkS ∧ st = ⟨[(1, .ptr 65 0 0), (2, .bool false), (3, .int .i64 k)], [(65, .box 0 (Fct.c ⟨n, l⟩))]⟩) l.length ?_ ?_
  · conv => whnf
    exact ⟨0, rfl, Nat.zero_le _, rfl, rfl⟩
  · rintro m st ⟨k, rfl, hk, he, rfl⟩
    conv => whnf
    refine branch_of (fun g => ?_) (fun g => ?_)
    · have g := of_decide_eq_true g
      rw [List.length_map] at g
      have hk' : k < l.length := by dsimp only at g; omega
      rw [List.drop_eq_getElem_cons hk', List.all_cons] at he
      conv => whnf
      refine ⟨Val.c l[k], idxM hk' rfl, ?_⟩
      conv => whnf
      refine call0 (refValue_good l[k] (h2 _ (List.getElem_mem hk'))) ?_
      cases ht : checkS l[k] with
      | false =>
        rw [ht, Bool.false_and] at he
        rw [he]
        conv => whnf
        exact fin0 rfl trivial
      | true =>
        rw [ht, Bool.true_and] at he
        conv => whnf
        refine ⟨l.length - (k + 1), by omega, k + 1, rfl, by omega, he, ?_⟩
        rw [wr (by omega) (by omega)]; rfl
    · have g := of_decide_eq_false g
      rw [List.length_map] at g
      have hd : l.drop k = [] := List.drop_eq_nil_iff.2 (by dsimp only at g; omega)
      rw [hd] at he
      rw [he]
      conv => whnf
      exact fin0 rfl trivial
end Go.PV
namespace Go.PV
open Go
/-! law 10: what is written of an atom, of an expression, is read -/
theorem join_tailK : ∀ l : List Trm, weaveK (tailK l) = Lib.joinTail [44, 32] (l.map termT) ++ [41]
  | [] => by simp [tailK, weaveK, Lib.joinTail]
  | t :: r => by
    have ih := join_tailK r
    simp only [Lib.joinTail] at ih
    simp only [tailK, weaveK, List.nil_append, List.map_cons, Lib.joinTail, List.flatten_cons, ih, termK_T, List.append_assoc]
    rfl
theorem atomT_nil {a : Atm} (h : a.a = []) : atomT a = a.n := by
  unfold atomT atomK; rw [h]; simp [argsK, weaveK]
theorem atomT_join {a : Atm} (h : a.a ≠ []) : a.n ++ [40] ++ Lib.join (a.a.map termT) [44, 32] ++ [41] = atomT a := by
  obtain ⟨n, l⟩ := a
  cases l with
  | nil => exact absurd rfl h
  | cons t r =>
    unfold atomT atomK
    simp only [argsK, weaveK, join_tailK, List.map_cons, Lib.join_cons, termK_T]
    simp
def bT : List Bs := [[], [32, 46], [32, 41], [32, 44], [32, 93], [32, 61, 62, 32, 112]]
def bK : List (List (Bs × KT)) := [[], [([32], (5, [46]))], [([32], (5, [41]))], [([32], (5, [44]))], [([32], (5, [93]))], [([32], (5, [61, 62])), ([32], (1, [112]))]]
theorem bK_facts (k : Nat) (h : k < 6) : ∃ (q : List (Bs × KT)), bK[k]? = some q ∧ bT[k]? = some (weaveK q) ∧ WovK [] q ∧ stopH (weaveK q) = true ∧ q.head?.map (·.2) ≠ some (5, [40]) := by
  have h6 : k = 0 ∨ k = 1 ∨ k = 2 ∨ k = 3 ∨ k = 4 ∨ k = 5 := by omega
  rcases h6 with rfl | rfl | rfl | rfl | rfl | rfl
  · exact ⟨_, rfl, rfl, trivial, rfl, by simp⟩
  · exact ⟨_, rfl, rfl, ⟨rfl, (by unfold Tk; decide +kernel), rfl, trivial⟩, rfl, by simp⟩
  · exact ⟨_, rfl, rfl, ⟨rfl, (by unfold Tk; decide +kernel), rfl, trivial⟩, rfl, by simp⟩
  · exact ⟨_, rfl, rfl, ⟨rfl, (by unfold Tk; decide +kernel), rfl, trivial⟩, rfl, by simp⟩
  · exact ⟨_, rfl, rfl, ⟨rfl, (by unfold Tk; decide +kernel), rfl, trivial⟩, rfl, by simp⟩
  · exact ⟨_, rfl, rfl, ⟨rfl, (by unfold Tk; decide +kernel), rfl, rfl, (by unfold Tk; decide +kernel), rfl, trivial⟩, rfl, by simp⟩
theorem atomT_weave (a : Atm) : weaveK (atomK [] a) = atomT a := rfl
theorem lex_atom {a : Atm} (h : atomOk a = true) {q : List (Bs × KT)} (hq : WovK [] q) (hs : stopH (weaveK q) = true) :
    errR (atomT a ++ weaveK q) = 0 ∧ (toksR (atomT a ++ weaveK q)).map kt = (atomK [] a).map (·.2) ++ q.map (·.2) := by
  have hw := WovK.app (tail := []) (a := atomK [] a) (b := q) (by rw [List.append_nil]; exact wov_atom hs rfl h) hq
  obtain ⟨h1, h2, _⟩ := wovK_R hw rfl
  rw [List.append_nil, weaveK_app, atomT_weave] at h1 h2
  exact ⟨h2, by rw [h1, posL_kt, List.map_append]⟩
theorem read_atom {a : Atm} (h : atomOk a = true) {q : List (Bs × KT)} (hq : WovK [] q) (hs : stopH (weaveK q) = true) (hh : q.head?.map (·.2) ≠ some (5, [40])) :
    readA (toksR (atomT a ++ weaveK q)) 0 = (a, (atomK [] a).length, 0) := by
  have := readA_back (l := toksR (atomT a ++ weaveK q)) (i := 0) (b := []) (m := q.map (·.2)) h (by rw [List.drop_zero]; exact (lex_atom h hq hs).2) (fun _ => by rw [List.head?_map]; exact hh)
  rw [this, Nat.zero_add]
theorem parse_atom {a : Atm} (h : atomOk a = true) : parseA (atomT a) = (a, 0) ∧ errR (atomT a) = 0 ∧ (toksR (atomT a)).length = (atomK [] a).length := by
  have h1 := lex_atom h (q := []) trivial rfl
  have h2 := read_atom h (q := []) trivial rfl (by simp)
  have e : atomT a ++ weaveK [] = atomT a := List.append_nil _
  rw [e] at h1 h2
  have h3 : (toksR (atomT a)).length = (atomK [] a).length := by have := congrArg List.length h1.2; simpa using this
  refine ⟨?_, h1.1, h3⟩
  unfold parseA
  rw [if_pos h1.1, h2]
  dsimp only
  rw [if_pos ⟨rfl, h3.symm⟩]
theorem atomT_inj {a b : Atm} (ha : atomOk a = true) (hb : atomOk b = true) : decide (atomT a = atomT b) = decide (a = b) := by
  rw [decide_eq_decide]
  refine ⟨fun h => ?_, fun h => by rw [h]⟩
  have h1 := (parse_atom ha).1
  rw [h, (parse_atom hb).1] at h1
  exact (congrArg Prod.fst h1).symm
namespace Tree
theorem txt_len : ∀ {T : Tree}, T.ok = true → T.txt.length ≤ 130 * T.size
  | leaf t, h => by have := termT_len h; simp only [txt, size]; omega
  | node k a b, h => by
    simp only [ok, Bool.and_eq_true, decide_eq_true_eq] at h
    have h1 := txt_len h.1.2
    have h2 := txt_len h.2
    have h3 : (opT k).length = 1 := by unfold opT; split; rfl; split <;> rfl
    simp only [txt, nodeT, size, List.length_append, List.length_cons, List.length_nil, h3]; omega
theorem lex_txt {T : Tree} (h : T.ok = true) {q : List (Bs × KT)} (hq : WovK [] q) (hs : stopH (weaveK q) = true) :
    errR (T.txt ++ weaveK q) = 0 ∧ (toksR (T.txt ++ weaveK q)).map kt = (T.toks []).map (·.2) ++ q.map (·.2) := by
  have hw := WovK.app (tail := []) (a := T.toks []) (b := q) (by rw [List.append_nil]; exact wov h [] _ rfl hs) hq
  obtain ⟨h1, h2, _⟩ := wovK_R hw rfl
  rw [List.append_nil, weaveK_app, weave_toks, List.nil_append] at h1 h2
  exact ⟨h2, by rw [h1, posL_kt, List.map_append]⟩
theorem read_txt {T : Tree} (h : T.ok = true) (hz : T.size ≤ 15) {q : List (Bs × KT)} (hq : WovK [] q) (hs : stopH (weaveK q) = true) :
    readX (toksR (T.txt ++ weaveK q)) 0 = (T.ops, (T.toks []).length, 0) := by
  have := readX_back (l := toksR (T.txt ++ weaveK q)) (i := 0) (b := []) (m := q.map (·.2)) h hz (by rw [List.drop_zero]; exact (lex_txt h hq hs).2)
  rw [this, Nat.zero_add]
end Tree
theorem exprT_len {l : List Stp} (h : exprOk l = true) : (exprT l).length ≤ 1950 := by
  obtain ⟨T, h1, rfl, h3⟩ := Tree.of_ok h
  rw [Tree.exprT_ops h1]
  have := Tree.txt_len h1
  omega
theorem read_expr {l : List Stp} (h : exprOk l = true) {q : List (Bs × KT)} (hq : WovK [] q) (hs : stopH (weaveK q) = true) :
    errR (exprT l ++ weaveK q) = 0 ∧ (readX (toksR (exprT l ++ weaveK q)) 0).1 = l ∧ (readX (toksR (exprT l ++ weaveK q)) 0).2.2 = 0 := by
  obtain ⟨T, h1, rfl, h3⟩ := Tree.of_ok h
  rw [Tree.exprT_ops h1, Tree.read_txt h1 h3 hq hs]
  exact ⟨(Tree.lex_txt h1 hq hs).1, rfl, rfl⟩
theorem exprT_inj {a b : List Stp} (ha : exprOk a = true) (hb : exprOk b = true) : decide (exprT a = exprT b) = decide (a = b) := by
  rw [decide_eq_decide]
  refine ⟨fun h => ?_, fun h => by rw [h]⟩
  have h1 := (read_expr ha (q := []) trivial rfl).2.1
  rw [h, (read_expr hb (q := []) trivial rfl).2.1] at h1
  exact h1.symm
theorem termOk_len {t : Trm} (h : termOk t = true) : t.v.length ≤ 24 ∧ t.x.s.length ≤ 60 := by
  unfold termOk at h
  split at h
  · rename_i hv
    refine ⟨by rw [hv]; exact Nat.zero_le _, ?_⟩
    rcases check_cases h with ⟨_, _, h3, _⟩ | ⟨_, _, h3, _⟩ | ⟨_, _, h3, _⟩
    · rw [h3]; exact Nat.zero_le _
    · simp [symbolS] at h3; omega
    · simp [plainS] at h3; omega
  · simp only [Bool.and_eq_true, decide_eq_true_eq] at h
    have h1 := h.1
    simp [varS, refWordS] at h1
    exact ⟨by omega, by rw [h.2]; exact Nat.zero_le _⟩
theorem atomOk_len {a : Atm} (h : atomOk a = true) : a.n.length ≤ 24 ∧ a.a.length ≤ 5 ∧ ∀ t ∈ a.a, t.v.length ≤ 24 ∧ t.x.s.length ≤ 60 := by
  unfold atomOk at h
  simp only [Bool.and_eq_true, decide_eq_true_eq, List.all_eq_true] at h
  have hn := nameS_word h.1.1
  simp [refWordS] at hn
  exact ⟨by omega, h.1.2, fun t ht => termOk_len (h.2 t ht)⟩
theorem dep_all : ∀ (l : List Stp) (d n : Nat), depGo d l = some n → ∀ o ∈ l, stpOk o = true
  | [], _, _, _, o, ho => by cases ho
  | x :: r, d, n, h, o, ho => by
    simp only [depGo] at h
    split at h
    · rename_i hx
      rcases List.mem_cons.1 ho with rfl | ho
      · exact hx
      · split at h
        · exact dep_all r _ n h o ho
        · split at h
          · cases h
          · exact dep_all r _ n h o ho
    · cases h
theorem stpOk_len {o : Stp} (h : stpOk o = true) : o.v.length ≤ 24 ∧ o.x.s.length ≤ 60 := by
  by_cases hk : o.k ≤ 2
  · exact termOk_len (stpOk_push h hk).1
  · rw [(stpOk_op h hk).2]; exact ⟨Nat.zero_le _, Nat.zero_le _⟩
theorem exprOk_len {l : List Stp} (h : exprOk l = true) : l.length ≤ 15 ∧ ∀ o ∈ l, o.v.length ≤ 24 ∧ o.x.s.length ≤ 60 := by
  unfold exprOk at h
  simp only [Bool.and_eq_true, decide_eq_true_eq] at h
  exact ⟨h.1.2, fun o ho => stpOk_len (dep_all l 0 1 h.2 o ho)⟩
/-- the tables of AtomsBad -/
def badT : List Bs := [[], [80], [110, 111, 116], [112, 40], [112, 40, 41], [112, 40, 88], [112, 40, 88, 32, 89, 41], [112, 40, 88, 44, 41], [112, 40, 88, 44, 32, 46, 41], [49], [112, 40, 88, 93]]
def badN : List Int := [0, 0, 0, 2, 2, 3, 3, 4, 4, 0, 3]
theorem bad_all : ((List.range 11).all fun k => decide ((badT.getD k []).length ≤ 20000) && decide (errR (badT.getD k []) = 0) && decide ((readA (toksR (badT.getD k [])) 0).2.2 = 7) && decide (((readA (toksR (badT.getD k [])) 0).2.1 : Int) = badN.getD k 0) && decide ((readA (toksR (badT.getD k [])) 0).1 = zeroA) && decide ((parseA (badT.getD k [])).2 = 7)) = true := by decide +kernel
end Go.PV
namespace Go.PV
open Go
/-! law 14: small things -/
def varGo (acc : List Bs) (t : Trm) : List Bs := if t.v ≠ [] ∧ t.v ∉ acc then acc ++ [t.v] else acc
def varsS (l : List Trm) : List Bs := l.foldl varGo []
theorem varGo_ne {acc : List Bs} (h : acc ≠ []) (t : Trm) : varGo acc t ≠ [] := by
  unfold varGo; split
  · simp
  · exact h
theorem vars_ne : ∀ (l : List Trm) {acc : List Bs}, acc ≠ [] → l.foldl varGo acc ≠ []
  | [], _, h => h
  | t :: r, _, h => vars_ne r (varGo_ne h t)
theorem vars_free (a : Atm) : decide (0 < (varsS a.a).length) = !free a := by
  obtain ⟨n, l⟩ := a
  unfold free varsS
  dsimp only
  induction l with
  | nil => rfl
  | cons t r ih =>
    rw [List.foldl_cons, List.all_cons]
    by_cases ht : t.v = []
    · have e : varGo [] t = [] := by unfold varGo; rw [if_neg (fun h => h.1 ht)]
      rw [e, ih, decide_eq_true ht, Bool.true_and]
    · have e : varGo [] t = [t.v] := by unfold varGo; rw [if_pos ⟨ht, by simp⟩]; rfl
      rw [e, decide_eq_false ht, Bool.false_and, Bool.not_false, decide_eq_true_iff]
      exact List.length_pos_iff.2 (vars_ne r (by simp))
theorem foldl_snoc {α β : Type} (f : β → α → β) (b : β) (l : List α) {k : Nat} (h : k < l.length) : (l.take (k + 1)).foldl f b = f ((l.take k).foldl f b) l[k] := by
  rw [← List.take_append_getElem h, List.foldl_append]; rfl
theorem factT_nil {f : Fct} (h : f.a = []) : factT f = f.n := atomT_nil (a := f.at) (by unfold Fct.at; rw [h]; rfl)
theorem factT_join {f : Fct} (h : f.a ≠ []) : f.n ++ [40] ++ Lib.join (f.a.map textV) [44, 32] ++ [41] = factT f := by
  have := atomT_join (a := f.at) (by unfold Fct.at; simp [h])
  rw [← factT] at this
  rw [← this]
  unfold Fct.at
  rw [List.map_map]
  rfl
theorem flatMap_snoc' {α : Type} (f : α → Bs) (l : List α) {k : Nat} (h : k < l.length) : (l.take (k + 1)).flatMap f = (l.take k).flatMap f ++ f l[k] := by
  rw [← List.take_append_getElem h, List.flatMap_append]; simp
theorem traceT_len {l : List Fct} (h : l.all factOk = true) : (traceT l).length ≤ 702 * l.length := by
  induction l with
  | nil => exact Nat.le_refl _
  | cons f r ih =>
    rw [List.all_cons, Bool.and_eq_true] at h
    have h1 := ih h.2
    have h2 := factT_len h.1
    simp only [traceT, List.flatMap_cons, List.length_append, List.length_cons, List.length_nil] at h1 ⊢
    omega
def fctH (f : Fct) : Bool := decide (200 < f.n.length) || decide (20 < f.a.length) || f.a.any fun v => decide (200 < v.s.length)
def fctsH (l : List Fct) : Bool := decide (250 < l.length) || l.any fctH
def fctB (f : Fct) : Prop := f.n.length ≤ 1000000 ∧ f.a.length ≤ 1000000 ∧ ∀ v ∈ f.a, v.s.length ≤ 1000000
theorem fctsH_B {l : List Fct} (h : fctsH l = false) : l.length ≤ 250 ∧ ∀ f ∈ l, fctB f := by
  unfold fctsH fctH at h
  simp at h
  obtain ⟨h1, h2⟩ := h
  refine ⟨h1, fun f hf => ?_⟩
  obtain ⟨⟨h3, h4⟩, h5⟩ := h2 f hf
  exact ⟨by omega, by omega, fun v hv => by have := h5 v hv; omega⟩
theorem check_len {v : Val} (h : checkS v = true) : v.s.length ≤ 60 := by
  rcases check_cases h with ⟨_, _, h3, _⟩ | ⟨_, _, h3, _⟩ | ⟨_, _, h3, _⟩
  · rw [h3]; exact Nat.zero_le _
  · simp [symbolS] at h3; omega
  · simp [plainS] at h3; omega
theorem factOk_B {f : Fct} (h : factOk f = true) : fctB f := by
  unfold factOk at h
  simp only [Bool.and_eq_true, decide_eq_true_eq, List.all_eq_true] at h
  have hn := nameS_word h.1.1
  simp [refWordS] at hn
  exact ⟨by omega, by omega, fun v hv => by have := check_len (h.2 v hv); omega⟩
end Go.PV
namespace Go.PV
open Go Go.Proofs
set_option maxRecDepth 100000
def withS (l : List Bs) (s : Bs) : List Bs := if s = [] then l else if s ∈ l then l else l ++ [s]
theorem with_own (l : List Bs) (s : Bs) (hl : l.length ≤ 1000000) : Good Tryz.prog 133 [.own 0 0, .str s] [.arr 0 false 1 (strV l)] [.own 0 0] [.arr 0 false 1 (strV (withS l s))] := by
  refine good_of hP Tryz.func133 (by kernel_rfl) (lv := [0, 1, 4, 5, 8, 13, 21]) (js := []) ⟨rfl, rfl, rfl, rfl, rfl, rfl, _, rfl, ?_⟩
  unfold withS
  conv => whnf
  refine branch_of (fun h => ?_) (fun h => ?_)
  · have h := of_decide_eq_true h
    have hs : s = [] := List.eq_nil_of_length_eq_zero (by omega)
    rw [if_pos hs]
    conv => whnf
    refine ⟨[], rfl, ?_⟩
    conv => whnf
    exact ⟨⟨⟩, rfl, trivial⟩
  have h := of_decide_eq_false h
  have hs : s ≠ [] := by rintro rfl; exact h rfl
  rw [if_neg hs]
  conv => whnf
  refine loop_of hP [0, 1, 4, 5, 8, 13, 21] [] [0, 1, 5] [0] [] (fun n st => ∃ k : Nat, n = l.length - k ∧ k ≤ l.length ∧ (∀ j (h : j < l.length), j < k → l[j] ≠ s) ∧ st = ⟨[(0, .own 0 0), (1, .str s), (5, .int .i64 k)], [(0, .arr 0 false 1 (strV l))]⟩) l.length ?_ ?_
  · conv => whnf
    exact ⟨0, rfl, by omega, fun j _ h => by omega, rfl⟩
  · rintro n st ⟨k, rfl, hk, hn, rfl⟩
    conv => whnf
    refine branch_of (fun h => ?_) (fun h => ?_)
    · have h := of_decide_eq_true h
      rw [List.length_map] at h
      have hk' : k < l.length := by omega
      conv => whnf
      refine ⟨⟨⟩, idxB (f := fun x => [V.str x]) hk' rfl, ?_⟩
      conv => whnf
      refine ⟨[.str l[k]], (idxM (f := fun x => [V.str x]) hk' rfl).2, ?_⟩
      conv => whnf
      refine branch_of (fun h2 => ?_) (fun h2 => ?_)
      · have h2 := of_decide_eq_true h2
        rw [if_pos (by rw [← h2]; exact List.getElem_mem hk')]
        conv => whnf
        refine ⟨[], rfl, ?_⟩
        conv => whnf
        exact ⟨⟨⟩, rfl, trivial⟩
      · have h2 := of_decide_eq_false h2
        conv => whnf
        refine ⟨l.length - (k + 1), by omega, k + 1, rfl, by omega, fun j hj hjk => ?_, ?_⟩
        · by_cases e : j = k
          · subst e; exact h2
          · exact hn j hj (by omega)
        · rw [wr (by omega) (by omega)]; rfl
    · have h := of_decide_eq_false h
      rw [List.length_map] at h
      have hni : s ∉ l := fun hm => by
        obtain ⟨j, hj, e⟩ := List.getElem_of_mem hm
        exact hn j hj (by omega) e
      rw [if_neg hni]
      conv => whnf
      refine ⟨⟨⟩, by dsimp only; simp only [List.length_map, List.length_cons, List.length_nil]; omega, ?_⟩
      conv => whnf
      rw [show strV (l ++ [s]) = strV l ++ [[V.str s]] from by simp]
      refine ⟨[], rfl, ?_⟩
      conv => whnf
      exact ⟨⟨⟩, rfl, trivial⟩
theorem withS_len (l : List Bs) (s : Bs) : (withS l s).length ≤ l.length + 1 := by
  unfold withS
  split
  · omega
  · split
    · omega
    · simp
theorem varGo_with (o : List Bs) (t : Trm) : varGo o t = withS o t.v := by
  unfold varGo withS
  by_cases h : t.v = []
  · rw [if_pos h, if_neg (fun x => x.1 h)]
  · rw [if_neg h]
    by_cases h2 : t.v ∈ o
    · rw [if_pos h2, if_neg (fun x => x.2 h2)]
    · rw [if_neg h2, if_pos ⟨h, h2⟩]
theorem varsS_len (l : List Trm) : ∀ o : List Bs, (l.foldl varGo o).length ≤ o.length + l.length := by
  induction l with
  | nil => intro o; simp
  | cons t l ih =>
    intro o
    have h1 := ih (varGo o t)
    have h2 := withS_len o t.v
    rw [← varGo_with] at h2
    simp only [List.foldl_cons, List.length_cons]; omega
theorem refVars_good (a : Atm) (hl : a.a.length ≤ 1000000) : Good Tryz.prog 70 [.agg a.c] [] [.sl 1 (strV (varsS a.a))] [] := by
  obtain ⟨n, l⟩ := a
  dsimp only at hl
  refine good_of hP Tryz.func70 (by kernel_rfl) (lv := [0, 1, 2, 3, 4, 9]) (js := []) ⟨rfl, rfl, rfl, rfl, rfl, rfl, _, rfl, ?_⟩
  conv => whnf
  refine loop_of hP [0, 1, 2, 3, 4, 9] [] [1, 2, 3, 4] [65, 67] [.slot 3 1] (fun m st => ∃ k : Nat, m = l.length - k ∧ k ≤ l.length ∧ st = ⟨[(1, .ptr 65 0 0), (2, .nil), (3, .own 67 0), (4, .int .i64 k)], [(65, .box 0 (Atm.c ⟨n, l⟩)), (67, .arr 0 false 1 (strV (varsS (l.take k))))]⟩) l.length ?_ ?_
  · conv => whnf
    exact ⟨0, rfl, Nat.zero_le _, rfl⟩
  · rintro m st ⟨k, rfl, hk, rfl⟩
    conv => whnf
    refine branch_of (fun h => ?_) (fun h => ?_)
    · have h := of_decide_eq_true h
      rw [List.length_map] at h
      have hk' : k < l.length := by dsimp only at h; omega
      have hvl := varsS_len (l.take k) []
      rw [List.length_take] at hvl
      conv => whnf
      refine ⟨Trm.c l[k], idxM hk' rfl, ?_⟩
      conv => whnf
      refine callN [(67, 0)] (with_own (varsS (l.take k)) l[k].v (by unfold varsS; simp only [List.length_nil] at hvl; omega)) ?_ 
      conv => whnf
      refine ⟨⟨⟩, rfl, ?_⟩
      conv => whnf
      refine ⟨l.length - (k + 1), by omega, k + 1, rfl, by omega, ?_⟩
      have e : varsS (l.take (k + 1)) = withS (varsS (l.take k)) l[k].v := by
        rw [← varGo_with]; unfold varsS; rw [← List.take_append_getElem hk', List.foldl_append]; rfl
      rw [e, wr (by omega) (by omega)]; rfl
    · have h := of_decide_eq_false h
      rw [List.length_map] at h
      have e : l.take k = l := List.take_of_length_le (by dsimp only at h; omega)
      rw [e]
      conv => whnf
      exact fin0 rfl trivial
theorem free_atm (a : Atm) : free a = (a.a.all fun t => decide (t.v = [])) := rfl
theorem refGround_good (a : Atm) (hl : a.a.length ≤ 1000000) (hf : free a = true) : Good Tryz.prog 72 [.agg a.c, .nil] [] [.agg a.gr.c, .bool true] [] := by
  obtain ⟨n, l⟩ := a
  dsimp only at hl
  rw [free_atm] at hf
  dsimp only at hf
  refine good_of hP Tryz.func72 (by kernel_rfl) (lv := [0, 1, 2, 4, 5, 6, 7, 8, 9, 10, 18, 34, 47]) (js := []) ⟨rfl, rfl, rfl, rfl, rfl, rfl, _, rfl, ?_⟩
  conv => whnf
  refine loop_of hP [0, 1, 2, 4, 5, 6, 7, 8, 9, 10, 18, 34, 47] [] [2, 4, 5, 6, 7] [66, 68, 70, 104481] [.cell 70 1 3] (fun m st => ∃ k : Nat, m = l.length - k ∧ k ≤ l.length ∧ st = ⟨[(2, .ptr 66 0 0), (4, .ptr 68 0 0), (5, .bool false), (6, .ptr 70 0 0), (7, .int .i64 k)], [(66, .box 0 (Atm.c ⟨n, l⟩)), (68, .box 0 [.str [], .nil]), (70, .box 0 [.str n, .own 104481 0]), (104481, .arr 0 false 3 (valV ((l.take k).map Trm.x)))]⟩) l.length ?_ ?_
  · conv => whnf
    exact ⟨0, rfl, Nat.zero_le _, rfl⟩
  · rintro m st ⟨k, rfl, hk, rfl⟩
    conv => whnf
    refine branch_of (fun h => ?_) (fun h => ?_)
    · have h := of_decide_eq_true h
      rw [List.length_map] at h
      have hk' : k < l.length := by dsimp only at h; omega
      have hv : l[k].v = [] := of_decide_eq_true (List.all_eq_true.1 hf _ (List.getElem_mem hk'))
      conv => whnf
      refine ⟨Trm.c l[k], idxM hk' rfl, ?_⟩
      conv => whnf
      refine ⟨Trm.c l[k], idxM hk' rfl, ?_⟩
      conv => whnf
      rw [hv]
      conv => whnf
      refine ⟨⟨⟩, by dsimp only; simp only [List.length_map, List.length_take, List.length_cons, List.length_nil]; omega, ?_⟩
      conv => whnf
      refine ⟨l.length - (k + 1), by omega, k + 1, rfl, by omega, ?_⟩
      rw [← List.take_append_getElem hk', List.map_append, show valV (List.map Trm.x (l.take k) ++ [l[k]].map Trm.x) = valV (List.map Trm.x (l.take k)) ++ [l[k].x.c] from by simp, wr (by omega) (by omega)]
      rfl
    · have h := of_decide_eq_false h
      rw [List.length_map] at h
      have e : l.take k = l := List.take_of_length_le (by dsimp only at h; omega)
      rw [e]
      conv => whnf
      exact fin0 rfl trivial
end Go.PV
namespace Go.PV
open Go Go.Proofs
set_option maxRecDepth 100000
theorem dec_big {u : Nat} (h : ¬ u < 10) : Lib.decDigits u = Lib.decDigits (u / 10) ++ [UInt8.ofNat (48 + u % 10)] := by rw [Lib.decDigits, dif_neg h]
theorem wru8 (n : Int) : IntKind.u8.wrap n = n % 256 := rfl
theorem digits_nat (n : Nat) (hn : n ≤ 4611686018427387904) : Good Tryz.prog 125 [.int .i64 n] [] [.str (Lib.decDigits n)] [] := by
  refine good_of hP Tryz.func125 (by kernel_rfl) (lv := [0, 2, 3, 5, 16]) (js := []) ⟨rfl, rfl, rfl, rfl, rfl, rfl, _, rfl, ?_⟩
  have hDl : (Lib.decDigits n).length ≤ 1000 := by
    rw [Lib.decDigits_length]
    have := nDigits_le 19 n (by omega) (by omega)
    omega
  generalize hD : Lib.decDigits n = D at *
  conv => whnf
  refine loop_of hP [0, 2, 3, 5, 16] [] [0, 2, 3] [] [] (fun m st => ∃ (u : Nat) (X : Bs), m = 2 * u + (if X = [] then 1 else 0) ∧ u ≤ 4611686018427387904 ∧ D = (if u = 0 ∧ X ≠ [] then X else Lib.decDigits u ++ X) ∧ st = ⟨[(0, .int .i64 u), (2, .str []), (3, .str X)], []⟩) (2 * n + 1) ?_ ?_
  · conv => whnf
    exact ⟨n, [], rfl, hn, by rw [if_neg (fun h => h.2 rfl), List.append_nil, hD], rfl⟩
  · rintro m st ⟨u, X, rfl, hu, he, rfl⟩
    by_cases hx : u = 0 ∧ X ≠ []
    · obtain ⟨rfl, hX⟩ := hx
      rw [if_pos ⟨rfl, hX⟩] at he
      subst he
      conv => whnf
      have e : decide (((List.length D : Nat) : Int) = 0) = false := decide_eq_false (fun h => hX (List.eq_nil_of_length_eq_zero (by omega)))
      rw [e]
      conv => whnf
      exact fin0 rfl trivial
    · rw [if_neg hx] at he
      have hXl : X.length ≤ 1000 := by have := congrArg List.length he; rw [List.length_append] at this; omega
      have q1 : ((u : Nat) : Int).tmod 10 = ((u % 10 : Nat) : Int) := by
        rw [Int.tmod_eq_emod_of_nonneg (by omega)]; omega
      have q2 : IntKind.i64.wrap (((u : Nat) : Int).tdiv 10) = ((u / 10 : Nat) : Int) := by
        rw [Int.tdiv_eq_ediv_of_nonneg (by omega), wr (by omega) (by omega)]; omega
      have q3 : IntKind.u8.wrap (IntKind.i64.wrap (48 + ((u % 10 : Nat) : Int))) = ((48 + u % 10 : Nat) : Int) := by
        rw [wr (by omega) (by omega), wru8]; omega
      conv => whnf
      refine branch_of (fun h => ?_) (fun h => ?_)
      · have h := of_decide_eq_true h
        conv => whnf
        refine ⟨⟨⟩, by decide, ?_⟩
        conv => whnf
        rw [q1]
        refine ⟨⟨⟩, fun y hy => ⟨_, List.mem_singleton.1 hy⟩, ?_⟩
        conv => whnf
        rw [q3]
        have e5 : List.map (fun y => UInt8.ofNat (numOf y).toNat) [[V.int .u8 ((48 + u % 10 : Nat) : Int)]] = [UInt8.ofNat (48 + u % 10)] := rfl
        rw [e5]
        refine ⟨⟨⟩, by show 1 + X.length ≤ 9223372036854775807; omega, ?_⟩
        conv => whnf
        refine ⟨⟨⟩, by decide, ?_⟩
        conv => whnf
        rw [q2]
        refine ⟨2 * (u / 10) + 0, by split <;> omega, u / 10, UInt8.ofNat (48 + u % 10) :: X, rfl, by omega, ?_, rfl⟩
        by_cases hs : u < 10
        · rw [if_pos ⟨by omega, by simp⟩, he, Lib.decDigits, dif_pos hs, show u % 10 = u by omega]; rfl
        · rw [if_neg (by omega), he, dec_big hs, List.append_assoc]; rfl
      · have h := of_decide_eq_false h
        have hu0 : u = 0 := by omega
        have hX : X = [] := Decidable.byContradiction fun e => hx ⟨hu0, e⟩
        subst hu0 hX
        conv => whnf
        refine ⟨⟨⟩, by decide, ?_⟩
        conv => whnf
        refine ⟨⟨⟩, fun y hy => ⟨_, List.mem_singleton.1 hy⟩, ?_⟩
        conv => whnf
        refine ⟨⟨⟩, by decide, ?_⟩
        conv => whnf
        refine ⟨⟨⟩, by decide, ?_⟩
        conv => whnf
        refine ⟨0, by decide, 0, [48], rfl, by omega, ?_, rfl⟩
        rw [if_pos ⟨rfl, by simp⟩, he, Lib.decDigits, dif_pos (by omega)]; rfl
theorem refDigits_good (n : Int) (hn : inR n = true) : Good Tryz.prog 125 [.int .i64 n] [] [.str (Lib.itoa n)] [] := by
  have hl := itoa_len hn
  have hr := hn
  unfold inR at hr
  have hr := of_decide_eq_true hr
  by_cases h0 : n < 0
  · refine good_of hP Tryz.func125 (by kernel_rfl) (lv := [0, 2, 3, 5, 16]) (js := []) ⟨rfl, rfl, rfl, rfl, rfl, rfl, _, rfl, ?_⟩
    conv => whnf
    refine branch_of (fun h => ?_) (fun h => ?_)
    · conv => whnf
      have e : IntKind.i64.wrap (0 - n) = ((n.natAbs : Nat) : Int) := by rw [wr (by omega) (by omega)]; omega
      rw [e]
      refine call0 (digits_nat n.natAbs (by omega)) ?_
      have e2 : Lib.itoa n = 45 :: Lib.decDigits n.natAbs := by unfold Lib.itoa; rw [if_pos h0]
      rw [e2] at hl ⊢
      rw [List.length_cons] at hl
      conv => whnf
      refine ⟨⟨⟩, by show 1 + (Lib.decDigits n.natAbs).length ≤ 9223372036854775807; omega, ?_⟩
      conv => whnf
      exact fin0 rfl trivial
    · have h := of_decide_eq_false h; omega
  · have e2 : Lib.itoa n = Lib.decDigits n.toNat := by unfold Lib.itoa; rw [if_neg h0]
    have e3 : ((n.toNat : Nat) : Int) = n := by omega
    have := digits_nat n.toNat (by omega)
    rw [e3] at this
    rw [e2]; exact this
theorem refVText_good (v : Val) (h : checkS v = true) : Good Tryz.prog 140 [.agg v.c] [] [.str (textV v)] [] := by
  have hl := textV_len h
  have ht : textV v = if v.k = 1 then Lib.itoa v.n else if v.k = 2 then v.s else quotedS v.s := by unfold textV; rw [if_pos h]
  rw [ht] at hl ⊢
  obtain ⟨k, n, s⟩ := v
  dsimp only at hl ⊢
  refine good_of hP Tryz.func140 (by kernel_rfl) (lv := [0, 1, 2, 3, 4, 6, 7, 12, 20, 34]) (js := []) ⟨rfl, rfl, rfl, rfl, rfl, rfl, _, rfl, ?_⟩
  conv => whnf
  refine branch_of (fun h1 => ?_) (fun h1 => ?_)
  · have h1 : k = 1 := of_decide_eq_true h1
    rw [if_pos h1]
    have hr : inR n = true := by
      unfold checkS at h
      dsimp only at h
      rw [if_pos h1, Bool.and_eq_true] at h
      exact h.1
    conv => whnf
    refine call0 (refDigits_good n hr) ?_
    conv => whnf
    exact fin0 rfl trivial
  have h1 : ¬ k = 1 := of_decide_eq_false h1
  rw [if_neg h1] at hl ⊢
  conv => whnf
  refine branch_of (fun h2 => ?_) (fun h2 => ?_)
  · have h2 : k = 2 := of_decide_eq_true h2
    rw [if_pos h2]
    conv => whnf
    exact fin0 rfl trivial
  have h2 : ¬ k = 2 := of_decide_eq_false h2
  rw [if_neg h2] at hl ⊢
  have hsl : s.length ≤ 60 := by
    unfold checkS at h
    dsimp only at h
    rw [if_neg h1, if_neg h2] at h
    split at h
    · unfold plainS at h; simp at h; exact h.2.2
    · cases h
  conv => whnf
  refine loop_of hP [0, 1, 2, 3, 4, 6, 7, 12, 20, 34] [] [1, 2, 3, 4] [65] [] (fun m st => ∃ i : Nat, m = s.length - i ∧ i ≤ s.length ∧ st = ⟨[(1, .ptr 65 0 0), (2, .str []), (3, .str (34 :: (s.take i).flatMap quoteB)), (4, .int .i64 i)], [(65, .box 0 (Val.c ⟨k, n, s⟩))]⟩) s.length ?_ ?_
  · conv => whnf
    exact ⟨0, rfl, Nat.zero_le _, rfl⟩
  · rintro m st ⟨i, rfl, hi, rfl⟩
    have hfl := flatMap_len (s.take i)
    rw [List.length_take] at hfl
    conv => whnf
    refine branch_of (fun g => ?_) (fun g => ?_)
    · have g := of_decide_eq_true g
      have hi' : i < s.length := by dsimp only at g; omega
      have hsn : (s.take (i + 1)).flatMap quoteB = (s.take i).flatMap quoteB ++ quoteB s[i] := flatMap_snoc' quoteB s hi'
      conv => whnf
      refine ⟨s[i], idx hi' rfl, ?_⟩
      have hw : IntKind.i64.wrap ((i : Int) + 1) = ((i + 1 : Nat) : Int) := by rw [wr (by omega) (by omega)]; rfl
      have hcut : List.drop ((i : Nat) : Int).toNat (List.take ((i + 1 : Nat) : Int).toNat s) = [s[i]] := sub1 hi'
      conv => whnf
      refine branch_of (fun g1 => ?_) (fun g1 => ?_)
      · have g1 := of_decide_eq_true g1
        have hq : quoteB s[i] = [92, s[i]] := by unfold quoteB escB; rw [if_pos (by simp; omega)]
        conv => whnf
        refine ⟨⟨⟩, by dsimp only; simp only [List.length_cons, List.length_nil]; omega, ?_⟩
        conv => whnf
        rw [hw]
        refine ⟨⟨⟩, ⟨by omega, by omega, by show ((i + 1 : Nat) : Int) ≤ (s.length : Int); omega⟩, ?_⟩
        conv => whnf
        rw [hcut]
        refine ⟨⟨⟩, by simp only [List.length_append, List.length_cons, List.length_nil]; omega, ?_⟩
        conv => whnf
        refine ⟨s.length - (i + 1), by omega, i + 1, rfl, by omega, ?_⟩
        rw [hsn, hq, hw]
        have e : (34 :: (List.flatMap quoteB (List.take i s) ++ [92, s[i]]) : Bs) = (34 :: List.flatMap quoteB (List.take i s)) ++ [92] ++ [s[i]] := by simp
        rw [e]
      have g1 := of_decide_eq_false g1
      conv => whnf
      refine ⟨s[i], idx hi' rfl, ?_⟩
      conv => whnf
      refine branch_of (fun g2 => ?_) (fun g2 => ?_)
      · have g2 := of_decide_eq_true g2
        have hq : quoteB s[i] = [92, s[i]] := by unfold quoteB escB; rw [if_pos (by simp; omega)]
        conv => whnf
        refine ⟨⟨⟩, by dsimp only; simp only [List.length_cons, List.length_nil]; omega, ?_⟩
        conv => whnf
        rw [hw]
        refine ⟨⟨⟩, ⟨by omega, by omega, by show ((i + 1 : Nat) : Int) ≤ (s.length : Int); omega⟩, ?_⟩
        conv => whnf
        rw [hcut]
        refine ⟨⟨⟩, by simp only [List.length_append, List.length_cons, List.length_nil]; omega, ?_⟩
        conv => whnf
        refine ⟨s.length - (i + 1), by omega, i + 1, rfl, by omega, ?_⟩
        rw [hsn, hq, hw]
        have e : (34 :: (List.flatMap quoteB (List.take i s) ++ [92, s[i]]) : Bs) = (34 :: List.flatMap quoteB (List.take i s)) ++ [92] ++ [s[i]] := by simp
        rw [e]
      · have g2 := of_decide_eq_false g2
        have hq : quoteB s[i] = [s[i]] := by unfold quoteB escB; rw [if_neg (by simp; omega)]
        conv => whnf
        rw [hw]
        refine ⟨⟨⟩, ⟨by omega, by omega, by show ((i + 1 : Nat) : Int) ≤ (s.length : Int); omega⟩, ?_⟩
        conv => whnf
        rw [hcut]
        refine ⟨⟨⟩, by simp only [List.length_cons, List.length_nil]; omega, ?_⟩
        conv => whnf
        refine ⟨s.length - (i + 1), by omega, i + 1, rfl, by omega, ?_⟩
        rw [hsn, hq, hw]
        rfl
    · have g := of_decide_eq_false g
      have e : s.take i = s := List.take_of_length_le (by dsimp only at g; omega)
      rw [e]
      rw [e] at hfl
      conv => whnf
      refine ⟨⟨⟩, by dsimp only; simp only [List.length_cons, List.length_nil]; omega, ?_⟩
      conv => whnf
      exact fin0 rfl trivial
/-- a text of parts, so far -/
def accS (n : Bs) : List Bs → Bs
  | [] => n
  | p :: r => n ++ [40] ++ p ++ Lib.joinTail [44, 32] r
theorem accS_snoc (n : Bs) (ps : List Bs) (p : Bs) : accS n (ps ++ [p]) = accS n ps ++ (if ps = [] then [40] else [44, 32]) ++ p := by
  cases ps with
  | nil => simp [accS, Lib.joinTail]
  | cons q r => simp [accS, Lib.joinTail]
theorem accS_end (n : Bs) {ps : List Bs} (h : ps ≠ []) : accS n ps ++ [41] = n ++ [40] ++ Lib.join ps [44, 32] ++ [41] := by
  cases ps with
  | nil => exact absurd rfl h
  | cons q r => simp [accS, Lib.join_cons]
theorem accS_len (n : Bs) (ps : List Bs) (b : Nat) (h : ∀ p ∈ ps, p.length ≤ b) : (accS n ps).length ≤ n.length + (b + 2) * ps.length := by
  cases ps with
  | nil => simp [accS]
  | cons q r =>
    have hq := h q (by simp)
    have : ∀ r : List Bs, (∀ p ∈ r, p.length ≤ b) → (Lib.joinTail [44, 32] r).length ≤ (b + 2) * r.length := fun r => by
      induction r with
      | nil => intro _; simp [Lib.joinTail]
      | cons x r ih =>
        intro hx
        have h1 := ih (fun p hp => hx p (by simp [hp]))
        have h2 := hx x (by simp)
        simp only [Lib.joinTail] at h1 ⊢
        simp only [List.map_cons, List.flatten_cons, List.length_append, List.length_cons, List.length_nil, Nat.mul_succ]
        omega
    have h1 := this r (fun p hp => h p (by simp [hp]))
    simp only [accS, List.length_append, List.length_cons, List.length_nil, Nat.mul_succ]
    omega
theorem factT_acc (f : Fct) : factT f = if f.a = [] then f.n else accS f.n (f.a.map textV) ++ [41] := by
  split
  · rename_i h; exact factT_nil h
  · rename_i h; rw [accS_end _ (by simp [h]), factT_join h]
theorem refFText_good (f : Fct) (h : factOk f = true) : Good Tryz.prog 76 [.agg f.c] [] [.str (factT f)] [] := by
  obtain ⟨n, l⟩ := f
  have hk := h
  unfold factOk at hk
  simp only [Bool.and_eq_true, decide_eq_true_eq] at hk
  obtain ⟨⟨hnm, hl5⟩, hall⟩ := hk
  have hn : n.length ≤ 24 := by
    unfold nameS refWordS at hnm
    simp at hnm; omega
  have hl5 : l.length ≤ 5 := hl5
  have hall : l.all checkS = true := hall
  refine good_of hP Tryz.func76 (by kernel_rfl) (lv := [0, 1, 2, 3, 4, 11, 15, 31]) (js := []) ⟨rfl, rfl, rfl, rfl, rfl, rfl, _, rfl, ?_⟩
  have e0 : factT ⟨n, l⟩ = if l = [] then n else accS n (l.map textV) ++ [41] := factT_acc ⟨n, l⟩
  rw [e0]
  have hb : ∀ k : Nat, ∀ p ∈ (l.take k).map textV, p.length ≤ 122 := fun k p hp => by
    obtain ⟨v, hv, rfl⟩ := List.mem_map.1 hp
    exact textV_len (List.all_eq_true.1 hall v (List.mem_of_mem_take hv))
  conv => whnf
  refine loop_of hP [0, 1, 2, 3, 4, 11, 15, 31] [] [1, 2, 3, 4] [65] [] (fun m st => ∃ k : Nat, m = l.length - k ∧ k ≤ l.length ∧ st = ⟨[(1, .ptr 65 0 0), (2, .str []), (3, .str (accS n ((l.take k).map textV))), (4, .int .i64 k)], [(65, .box 0 (Fct.c ⟨n, l⟩))]⟩) l.length ?_ ?_
  · conv => whnf
    exact ⟨0, rfl, Nat.zero_le _, rfl⟩
  · rintro m st ⟨k, rfl, hkl, rfl⟩
    have hal := accS_len n ((l.take k).map textV) 122 (hb k)
    rw [List.length_map, List.length_take] at hal
    conv => whnf
    refine branch_of (fun g => ?_) (fun g => ?_)
    · have g := of_decide_eq_true g
      rw [List.length_map] at g
      have hk' : k < l.length := by dsimp only at g; omega
      have hck : checkS l[k] = true := List.all_eq_true.1 hall _ (List.getElem_mem hk')
      have hvl := textV_len hck
      have hsn : accS n ((l.take (k + 1)).map textV) = accS n ((l.take k).map textV) ++ (if (l.take k).map textV = [] then [40] else [44, 32]) ++ textV l[k] := by
        rw [map_snoc _ l hk', accS_snoc]
      have hw : IntKind.i64.wrap ((k : Int) + 1) = ((k + 1 : Nat) : Int) := by rw [wr (by omega) (by omega)]; rfl
      conv => whnf
      refine branch_of (fun g1 => ?_) (fun g1 => ?_)
      · have g1 := of_decide_eq_true g1
        have hk0 : k = 0 := by omega
        rw [if_pos (by rw [hk0]; rfl)] at hsn
        conv => whnf
        refine ⟨⟨⟩, by dsimp only; simp only [List.length_cons, List.length_nil]; omega, ?_⟩
        conv => whnf
        refine ⟨Val.c l[k], idxM hk' rfl, ?_⟩
        conv => whnf
        refine call0 (refVText_good l[k] hck) ?_
        conv => whnf
        refine ⟨⟨⟩, by simp only [List.length_append, List.length_cons, List.length_nil]; omega, ?_⟩
        conv => whnf
        refine ⟨l.length - (k + 1), by omega, k + 1, rfl, by omega, ?_⟩
        rw [hsn, hw]
      · have g1 := of_decide_eq_false g1
        rw [if_neg (by rw [List.map_eq_nil_iff, List.take_eq_nil_iff]; rintro (e | e); exact g1 (by omega); rw [e] at hk'; simp at hk')] at hsn
        conv => whnf
        refine ⟨⟨⟩, by dsimp only; simp only [List.length_cons, List.length_nil]; omega, ?_⟩
        conv => whnf
        refine ⟨Val.c l[k], idxM hk' rfl, ?_⟩
        conv => whnf
        refine call0 (refVText_good l[k] hck) ?_
        conv => whnf
        refine ⟨⟨⟩, by simp only [List.length_append, List.length_cons, List.length_nil]; omega, ?_⟩
        conv => whnf
        refine ⟨l.length - (k + 1), by omega, k + 1, rfl, by omega, ?_⟩
        rw [hsn, hw]
    · have g := of_decide_eq_false g
      rw [List.length_map] at g
      have e : l.take k = l := List.take_of_length_le (by dsimp only at g; omega)
      rw [e] at hal ⊢
      conv => whnf
      refine branch_of (fun g2 => ?_) (fun g2 => ?_)
      · have g2 := of_decide_eq_true g2
        rw [List.length_map] at g2
        have hne : l ≠ [] := by rintro rfl; exact absurd g2 (by simp)
        rw [if_neg hne]
        conv => whnf
        refine ⟨⟨⟩, by dsimp only; simp only [List.length_cons, List.length_nil]; omega, ?_⟩
        conv => whnf
        exact fin0 rfl trivial
      · have g2 := of_decide_eq_false g2
        rw [List.length_map] at g2
        have hne : l = [] := List.eq_nil_of_length_eq_zero (by dsimp only at g2; omega)
        rw [if_pos hne]
        conv => whnf
        subst hne
        exact fin0 rfl trivial
end Go.PV
namespace Go.PV
open Go Go.Proofs
set_option maxRecDepth 100000
def tok0 : Tok := ⟨0, [], (0, 0)⟩
theorem qtok_good (q : Rf) (hb : tokB q.l) : Good Tryz.prog 156 [.ptr 0 0 0] [q.ob] [.agg (q.tok.getD tok0).c, .bool q.tok.isSome] [q.ob] := by
  obtain ⟨l, i, b⟩ := q
  obtain ⟨hl, ht⟩ := hb
  dsimp only at hl ht
  refine good_of hP Tryz.func156 (by kernel_rfl) (lv := [0, 2, 3, 54]) (js := []) ⟨rfl, rfl, rfl, rfl, rfl, rfl, _, rfl, ?_⟩
  unfold Rf.tok
  dsimp only
  conv => whnf
  refine branch_of (fun h => ?_) (fun h => ?_)
  · have h := of_decide_eq_true h
    rw [List.length_map] at h
    dsimp only at h
    have e : l[i]? = none := List.getElem?_eq_none (by omega)
    rw [e]
    conv => whnf
    refine ⟨by kernel_rfl, ?_⟩
    conv => whnf
    refine ⟨[], rfl, ?_⟩
    conv => whnf
    exact ⟨⟨⟩, rfl, trivial⟩
  have h := of_decide_eq_false h
  rw [List.length_map] at h
  dsimp only at h
  have hi : i < l.length := by omega
  have e : l[i]? = some l[i] := List.getElem?_eq_getElem hi
  rw [e]
  dsimp only
  unfold tokOk
  conv => whnf
  refine ⟨Tok.c l[i], idxM hi rfl, ?_⟩
  conv => whnf
  refine call0 (in9_good l[i].k 1 5) ?_
  cases h1 : decide (1 ≤ l[i].k ∧ l[i].k ≤ 5) with
  | false =>
    rw [Bool.false_and]
    conv => whnf
    refine ⟨by kernel_rfl, ?_⟩
    conv => whnf
    refine ⟨[], rfl, ?_⟩
    conv => whnf
    exact ⟨⟨⟩, rfl, trivial⟩
  | true =>
  rw [Bool.true_and]
  conv => whnf
  refine ⟨Tok.c l[i], idxM hi rfl, ?_⟩
  conv => whnf
  refine ⟨Tok.c l[i], idxM hi rfl, ?_⟩
  conv => whnf
  refine call0 (right_good l[i].k l[i].t (Nat.le_trans (ht _ (List.getElem_mem hi)) (by omega))) ?_
  cases h2 : refRight l[i].k l[i].t with
  | false =>
    conv => whnf
    refine ⟨by kernel_rfl, ?_⟩
    conv => whnf
    refine ⟨[], rfl, ?_⟩
    conv => whnf
    exact ⟨⟨⟩, rfl, trivial⟩
  | true =>
    conv => whnf
    refine ⟨by kernel_rfl, ?_⟩
    conv => whnf
    refine ⟨Tok.c l[i], idxM hi rfl, ?_⟩
    conv => whnf
    refine ⟨by kernel_rfl, ?_⟩
    conv => whnf
    refine ⟨[], rfl, ?_⟩
    conv => whnf
    exact ⟨⟨⟩, rfl, trivial⟩
theorem qis_good (q : Rf) (k : Int) (s : Bs) (hb : tokB q.l) : Good Tryz.prog 134 [.ptr 0 0 0, .int .i64 k, .str s] [q.ob] [.bool (q.is k s)] [q.ob] := by
  refine good_of hP Tryz.func134 (by kernel_rfl) (lv := [0, 1, 2, 6, 7, 8]) (js := []) ⟨rfl, rfl, rfl, rfl, rfl, rfl, _, rfl, ?_⟩
  unfold Rf.is
  conv => whnf
  refine callN [(0, 0)] (qtok_good q hb) ?_ 
  conv => whnf
  refine ⟨⟨⟩, rfl, ?_⟩
  cases q.tok with
  | none =>
    conv => whnf
    refine ⟨[], rfl, ?_⟩
    conv => whnf
    exact ⟨⟨⟩, rfl, trivial⟩
  | some t =>
    dsimp only
    conv => whnf
    refine branch_of (fun h => ?_) (fun h => ?_)
    · have h : decide (t.k = k) = true := h
      rw [h]
      conv => whnf
      refine ⟨[], rfl, ?_⟩
      conv => whnf
      exact ⟨⟨⟩, rfl, trivial⟩
    · have h : decide (t.k = k) = false := h
      rw [h]
      conv => whnf
      refine ⟨[], rfl, ?_⟩
      conv => whnf
      exact ⟨⟨⟩, rfl, trivial⟩
theorem tok_lt {q : Rf} {t : Tok} (h : q.tok = some t) : q.i < q.l.length ∧ t ∈ q.l := by
  unfold Rf.tok at h
  split at h
  · rename_i u hu
    split at h
    · cases h
      exact ⟨(List.getElem?_eq_some_iff.1 hu).1, List.mem_of_getElem? hu⟩
    · cases h
  · cases h
theorem is_lt {q : Rf} {k : Int} {s : Bs} (h : q.is k s = true) : q.i < q.l.length := by
  unfold Rf.is at h
  split at h
  · rename_i t ht; exact (tok_lt ht).1
  · cases h
theorem qtake_good (q : Rf) (k : Int) (s : Bs) (hb : tokB q.l) : Good Tryz.prog 71 [.ptr 0 0 0, .int .i64 k, .str s] [q.ob] [] [(q.take k s).ob] := by
  refine good_of hP Tryz.func71 (by kernel_rfl) (lv := [0, 1, 2, 15]) (js := []) ⟨rfl, rfl, rfl, rfl, rfl, rfl, _, rfl, ?_⟩
  have hl := hb.1
  unfold Rf.take
  conv => whnf
  cases ho : q.ok with
  | false =>
    rw [Bool.false_and, if_neg (by simp)]
    conv => whnf
    refine ⟨[], rfl, ?_⟩
    conv => whnf
    exact ⟨⟨⟩, rfl, trivial⟩
  | true =>
  rw [Bool.true_and]
  conv => whnf
  refine callN [(0, 0)] (qis_good q k s hb) ?_ 
  conv => whnf
  refine ⟨⟨⟩, rfl, ?_⟩
  cases h : q.is k s with
  | false =>
    rw [if_neg (by simp)]
    conv => whnf
    refine ⟨[], rfl, ?_⟩
    conv => whnf
    exact ⟨⟨⟩, rfl, trivial⟩
  | true =>
    rw [if_pos rfl]
    have := is_lt h
    have hw : IntKind.i64.wrap ((q.i : Int) + 1) = (q.i + 1 : Nat) := by rw [wr (by omega) (by omega)]; rfl
    conv => whnf
    rw [hw]
    refine ⟨[], rfl, ?_⟩
    conv => whnf
    exact ⟨⟨⟩, rfl, trivial⟩
theorem qname_good (q : Rf) (hb : tokB q.l) : Good Tryz.prog 97 [.ptr 0 0 0] [q.ob] [.str q.name.1] [q.name.2.ob] := by
  refine good_of hP Tryz.func97 (by kernel_rfl) (lv := [0, 2, 3, 4, 29]) (js := []) ⟨rfl, rfl, rfl, rfl, rfl, rfl, _, rfl, ?_⟩
  have hl := hb.1
  conv => whnf
  refine callN [(0, 0)] (qtok_good q hb) ?_ 
  conv => whnf
  refine ⟨⟨⟩, rfl, ?_⟩
  conv => whnf
  cases hk : q.tok with
  | none =>
    have e : q.name = ([], q.fail) := by unfold Rf.name; rw [hk]
    rw [e]
    cases ho : q.ok with
    | false =>
      conv => whnf
      refine ⟨[], rfl, ?_⟩
      conv => whnf
      exact ⟨⟨⟩, rfl, trivial⟩
    | true =>
      conv => whnf
      refine ⟨[], rfl, ?_⟩
      conv => whnf
      exact ⟨⟨⟩, rfl, trivial⟩
  | some t =>
  obtain ⟨hi, hm⟩ := tok_lt hk
  have hw : IntKind.i64.wrap ((q.i : Int) + 1) = (q.i + 1 : Nat) := by rw [wr (by omega) (by omega)]; rfl
  cases ho : q.ok with
  | false =>
    have e : q.name = ([], q.fail) := by unfold Rf.name; rw [hk]; exact if_neg (fun x => by rw [ho] at x; cases x.1)
    rw [e]
    conv => whnf
    refine ⟨[], rfl, ?_⟩
    conv => whnf
    exact ⟨⟨⟩, rfl, trivial⟩
  | true =>
  conv => whnf
  refine branch_of (fun h => ?_) (fun h => ?_)
  · have h : (!decide (t.k = 1)) = true := h
    rw [Bool.not_eq_true'] at h
    have h := of_decide_eq_false h
    have e : q.name = ([], q.fail) := by unfold Rf.name; rw [hk]; exact if_neg (fun x => h x.2.1)
    rw [e]
    conv => whnf
    refine ⟨[], rfl, ?_⟩
    conv => whnf
    exact ⟨⟨⟩, rfl, trivial⟩
  have h : (!decide (t.k = 1)) = false := h
  rw [Bool.not_eq_false'] at h
  have h := of_decide_eq_true h
  conv => whnf
  refine call0 (refName_good t.t (Nat.le_trans (hb.2 t hm) (by omega))) ?_
  cases hn : nameS t.t with
  | false =>
    have e : q.name = ([], q.fail) := by unfold Rf.name; rw [hk]; exact if_neg (fun x => by rw [hn] at x; cases x.2.2)
    rw [e]
    conv => whnf
    refine ⟨[], rfl, ?_⟩
    conv => whnf
    exact ⟨⟨⟩, rfl, trivial⟩
  | true =>
    have e : q.name = (t.t, q.step) := by unfold Rf.name; rw [hk]; exact if_pos ⟨ho, h, hn⟩
    have hst : q.step = ⟨q.l, q.i + 1, true⟩ := by unfold Rf.step; rw [ho]
    rw [e, hst]
    conv => whnf
    rw [hw]
    refine ⟨[], rfl, ?_⟩
    conv => whnf
    exact ⟨⟨⟩, rfl, trivial⟩
theorem qnum_good (q : Rf) (hb : tokB q.l) : Good Tryz.prog 179 [.ptr 0 0 0] [q.ob] [.int .i64 q.num.1] [q.num.2.ob] := by
  refine good_of hP Tryz.func179 (by kernel_rfl) (lv := [0, 2, 3, 4, 5, 25]) (js := []) ⟨rfl, rfl, rfl, rfl, rfl, rfl, _, rfl, ?_⟩
  have hl := hb.1
  conv => whnf
  refine callN [(0, 0)] (qtok_good q hb) ?_ 
  conv => whnf
  refine ⟨⟨⟩, rfl, ?_⟩
  conv => whnf
  cases hk : q.tok with
  | none =>
    have e : q.num = (0, q.fail) := by unfold Rf.num; rw [hk]
    rw [e]
    cases ho : q.ok with
    | false =>
      conv => whnf
      refine ⟨[], rfl, ?_⟩
      conv => whnf
      exact ⟨⟨⟩, rfl, trivial⟩
    | true =>
      conv => whnf
      refine ⟨[], rfl, ?_⟩
      conv => whnf
      exact ⟨⟨⟩, rfl, trivial⟩
  | some t =>
  obtain ⟨hi, hm⟩ := tok_lt hk
  have hw : IntKind.i64.wrap ((q.i : Int) + 1) = (q.i + 1 : Nat) := by rw [wr (by omega) (by omega)]; rfl
  cases ho : q.ok with
  | false =>
    have e : q.num = (0, q.fail) := by unfold Rf.num; rw [hk]; exact if_neg (fun x => by rw [ho] at x; cases x.1)
    rw [e]
    conv => whnf
    refine ⟨[], rfl, ?_⟩
    conv => whnf
    exact ⟨⟨⟩, rfl, trivial⟩
  | true =>
  conv => whnf
  refine branch_of (fun h => ?_) (fun h => ?_)
  · have h : (!decide (t.k = 3)) = true := h
    rw [Bool.not_eq_true'] at h
    have h := of_decide_eq_false h
    have e : q.num = (0, q.fail) := by unfold Rf.num; rw [hk]; exact if_neg (fun x => h x.2)
    rw [e]
    conv => whnf
    refine ⟨[], rfl, ?_⟩
    conv => whnf
    exact ⟨⟨⟩, rfl, trivial⟩
  have h : (!decide (t.k = 3)) = false := h
  rw [Bool.not_eq_false'] at h
  have h := of_decide_eq_true h
  have e : q.num = ((refNumS t.t).getD 0, q.step) := by unfold Rf.num; rw [hk]; exact if_pos ⟨ho, h⟩
  have hst : q.step = ⟨q.l, q.i + 1, true⟩ := by unfold Rf.step; rw [ho]
  rw [e, hst]
  conv => whnf
  refine call0 (refNumber_good t.t (Nat.le_trans (hb.2 t hm) (by omega))) ?_
  conv => whnf
  rw [hw]
  refine ⟨[], rfl, ?_⟩
  conv => whnf
  exact ⟨⟨⟩, rfl, trivial⟩
theorem qterm_good (q : Rf) (hb : tokB q.l) : Good Tryz.prog 157 [.ptr 0 0 0] [q.ob] [.agg q.term.1.c] [q.term.2.ob] := by
  refine good_of hP Tryz.func157 (by kernel_rfl) (lv := [0, 2, 3, 4, 5, 7, 27, 40, 41, 46, 57]) (js := []) ⟨rfl, rfl, rfl, rfl, rfl, rfl, _, rfl, ?_⟩
  have hl := hb.1
  conv => whnf
  refine callN [(0, 0)] (qtok_good q hb) ?_ 
  conv => whnf
  refine ⟨⟨⟩, rfl, ?_⟩
  conv => whnf
  cases hk : q.tok with
  | none =>
    have e : q.term = (zeroT, q.fail) := by unfold Rf.term; rw [hk]
    rw [e]
    cases ho : q.ok with
    | false =>
      conv => whnf
      refine ⟨[], rfl, ?_⟩
      conv => whnf
      exact ⟨⟨⟩, rfl, trivial⟩
    | true =>
      conv => whnf
      refine ⟨[], rfl, ?_⟩
      conv => whnf
      exact ⟨⟨⟩, rfl, trivial⟩
  | some t =>
  obtain ⟨hi, hm⟩ := tok_lt hk
  have hw : IntKind.i64.wrap ((q.i : Int) + 1) = (q.i + 1 : Nat) := by rw [wr (by omega) (by omega)]; rfl
  cases ho : q.ok with
  | false =>
    have e : q.term = (zeroT, q.fail) := by unfold Rf.term; rw [hk]; exact if_neg (fun x => by rw [ho] at x; cases x.1)
    rw [e]
    conv => whnf
    refine ⟨[], rfl, ?_⟩
    conv => whnf
    exact ⟨⟨⟩, rfl, trivial⟩
  | true =>
  conv => whnf
  refine branch_of (fun h => ?_) (fun h => ?_)
  · have h : t.k = 5 := of_decide_eq_true h
    have e : q.term = (zeroT, q.fail) := by unfold Rf.term; rw [hk]; exact if_neg (fun x => x.2 h)
    rw [e]
    conv => whnf
    refine ⟨[], rfl, ?_⟩
    conv => whnf
    exact ⟨⟨⟩, rfl, trivial⟩
  have h : ¬ t.k = 5 := of_decide_eq_false h
  have e : q.term = (refTerm t, q.step) := by unfold Rf.term; rw [hk]; exact if_pos ⟨ho, h⟩
  have hst : q.step = ⟨q.l, q.i + 1, true⟩ := by unfold Rf.step; rw [ho]
  rw [e, hst]
  unfold refTerm
  conv => whnf
  rw [hw]
  refine branch_of (fun h2 => ?_) (fun h2 => ?_)
  · have h2 : t.k = 2 := of_decide_eq_true h2
    rw [if_pos h2]
    conv => whnf
    refine ⟨[], rfl, ?_⟩
    conv => whnf
    exact ⟨⟨⟩, rfl, trivial⟩
  have h2 : ¬ t.k = 2 := of_decide_eq_false h2
  rw [if_neg h2]
  conv => whnf
  refine branch_of (fun h3 => ?_) (fun h3 => ?_)
  · have h3 : t.k = 3 := of_decide_eq_true h3
    rw [if_pos h3]
    conv => whnf
    refine call0 (refNumber_good t.t (Nat.le_trans (hb.2 t hm) (by omega))) ?_
    conv => whnf
    refine ⟨[], rfl, ?_⟩
    conv => whnf
    exact ⟨⟨⟩, rfl, trivial⟩
  have h3 : ¬ t.k = 3 := of_decide_eq_false h3
  rw [if_neg h3]
  conv => whnf
  refine branch_of (fun h4 => ?_) (fun h4 => ?_)
  · have h4 : t.k = 4 := of_decide_eq_true h4
    rw [if_pos h4]
    conv => whnf
    refine call0 (refQuoted_good t.t (Nat.le_trans (hb.2 t hm) (by omega))) ?_
    conv => whnf
    refine ⟨[], rfl, ?_⟩
    conv => whnf
    exact ⟨⟨⟩, rfl, trivial⟩
  have h4 : ¬ t.k = 4 := of_decide_eq_false h4
  rw [if_neg h4]
  conv => whnf
  refine ⟨[], rfl, ?_⟩
  conv => whnf
  exact ⟨⟨⟩, rfl, trivial⟩
end Go.PV
namespace Go.PV
open Go Go.Proofs
set_option maxRecDepth 100000
theorem qatom_no {q : Rf} (h : (q.name.2.ok && q.name.2.is 5 [40]) = false) : q.atom = (⟨q.name.1, []⟩, q.name.2) := by
  unfold Rf.atom; rw [if_neg (by rw [h]; simp)]
theorem qatom_yes {q : Rf} (h : (q.name.2.ok && q.name.2.is 5 [40]) = true) : q.atom = (⟨q.name.1, q.name.2.step.term.1 :: (Rf.args q.name.2.l.length q.name.2.step.term.2).1⟩, (Rf.args q.name.2.l.length q.name.2.step.term.2).2.take 5 [41]) := by
  unfold Rf.atom; rw [if_pos h]
theorem qatom_good (q : Rf) (hb : tokB q.l) : Good Tryz.prog 98 [.ptr 0 0 0] [q.ob] [.agg q.atom.1.c] [q.atom.2.ob] := by
  have hl := hb.1
  refine good_of hP Tryz.func98 (by kernel_rfl) (lv := [0, 2, 3, 16, 39]) (js := []) ⟨rfl, rfl, rfl, rfl, rfl, rfl, _, rfl, ?_⟩
  have hn := Rf.name_l q
  conv => whnf
  refine callN [(0, 0)] (qname_good q hb) ?_ 
  conv => whnf
  refine ⟨⟨⟩, rfl, ?_⟩
  have hy := qatom_yes (q := q)
  have hno := qatom_no (q := q)
  generalize hx : q.name = x at *
  obtain ⟨n, ⟨xl, xi, xo⟩⟩ := x
  dsimp only at hn hy hno
  obtain rfl : xl = q.l := hn.1
  conv => whnf
  cases xo with
  | false =>
    rw [hno rfl]
    conv => whnf
    refine ⟨[], rfl, ?_⟩
    conv => whnf
    exact ⟨⟨⟩, rfl, trivial⟩
  | true =>
  conv => whnf
  refine callN [(0, 0)] (qis_good ⟨q.l, xi, true⟩ 5 [40] hb) ?_ 
  conv => whnf
  refine ⟨⟨⟩, rfl, ?_⟩
  cases hs : (⟨q.l, xi, true⟩ : Rf).is 5 [40] with
  | false =>
    rw [hno (by rw [hs]; rfl)]
    conv => whnf
    refine ⟨[], rfl, ?_⟩
    conv => whnf
    exact ⟨⟨⟩, rfl, trivial⟩
  | true =>
  rw [hy (by rw [hs]; rfl)]
  have hlt : xi < q.l.length := is_lt hs
  have hw : IntKind.i64.wrap ((xi : Int) + 1) = (xi + 1 : Nat) := by rw [wr (by omega) (by omega)]; rfl
  conv => whnf
  rw [hw]
  have h1 := Rf.term_l ⟨q.l, xi + 1, true⟩
  refine callN [(0, 0)] (qterm_good ⟨q.l, xi + 1, true⟩ hb) ?_ 
  conv => whnf
  refine ⟨⟨⟩, rfl, ?_⟩
  have hst : (⟨q.l, xi, true⟩ : Rf).step = ⟨q.l, xi + 1, true⟩ := rfl
  rw [hst]
  generalize hz : (⟨q.l, xi + 1, true⟩ : Rf).term = y at *
  have hyl : y.2.l = q.l := h1.1
  generalize hU : Rf.args q.l.length y.2 = U
  conv => whnf
  refine ⟨⟨⟩, by dsimp only; simp only [List.length_cons, List.length_nil]; omega, ?_⟩
  conv => whnf
  refine ⟨by kernel_rfl, ?_⟩
  conv => whnf
  refine loop_of hP [0, 2, 3, 16, 39] [] [0, 2, 3] [0, 66, 67, 94] [] (fun m st => ∃ (f : Nat) (ts : List Trm) (p : Rf), m = p.l.length - p.i ∧ p.l = q.l ∧ p.l.length ≤ f + p.i ∧ f + ts.length = q.l.length ∧ U = (ts ++ (Rf.args f p).1, (Rf.args f p).2) ∧
    st = ⟨[(0, .ptr 0 0 0), (2, .ptr 66 0 0), (3, .ptr 67 0 0)], [(0, p.ob), (66, .box 0 [.str [], .nil]), (67, .box 0 [.str n, .own 94 0]), (94, .arr 0 false 4 (trmV (y.1 :: ts)))]⟩) (y.2.l.length - y.2.i) ?_ ?_
  · conv => whnf
    exact ⟨q.l.length, [], y.2, rfl, hyl, by rw [hyl]; omega, rfl, hU.symm, rfl⟩
  · rintro m st ⟨f, ts, ⟨pl, pi, po⟩, rfl, hp, hf, hts, he, rfl⟩
    dsimp only at hp hf
    subst hp
    conv => whnf
    cases po with
    | false =>
      have hu : Rf.args f ⟨q.l, pi, false⟩ = ([], ⟨q.l, pi, false⟩) := by cases f <;> rfl
      rw [hu, List.append_nil] at he
      subst he
      conv => whnf
      refine callN [(0, 0)] (qtake_good ⟨q.l, pi, false⟩ 5 [41] hb) ?_ 
      conv => whnf
      refine ⟨⟨⟩, rfl, ?_⟩
      conv => whnf
      refine ⟨[], rfl, ?_⟩
      conv => whnf
      exact ⟨⟨⟩, rfl, trivial⟩
    | true =>
    conv => whnf
    refine callN [(0, 0)] (qis_good ⟨q.l, pi, true⟩ 5 [44] hb) ?_ 
    conv => whnf
    refine ⟨⟨⟩, rfl, ?_⟩
    cases hs2 : (⟨q.l, pi, true⟩ : Rf).is 5 [44] with
    | false =>
      have hu : Rf.args f ⟨q.l, pi, true⟩ = ([], ⟨q.l, pi, true⟩) := by cases f with
        | zero => rfl
        | succ f => rw [Rf.args, hs2]; rfl
      rw [hu, List.append_nil] at he
      subst he
      conv => whnf
      refine callN [(0, 0)] (qtake_good ⟨q.l, pi, true⟩ 5 [41] hb) ?_ 
      conv => whnf
      refine ⟨⟨⟩, rfl, ?_⟩
      conv => whnf
      refine ⟨[], rfl, ?_⟩
      conv => whnf
      exact ⟨⟨⟩, rfl, trivial⟩
    | true =>
      have hlt2 : pi < q.l.length := is_lt hs2
      obtain ⟨f, rfl⟩ : ∃ f', f = f' + 1 := ⟨f - 1, by omega⟩
      rw [Rf.args, hs2] at he
      have hw2 : IntKind.i64.wrap ((pi : Int) + 1) = (pi + 1 : Nat) := by rw [wr (by omega) (by omega)]; rfl
      conv => whnf
      rw [hw2]
      have h2 := Rf.term_l ⟨q.l, pi + 1, true⟩
      have hst2 : (⟨q.l, pi, true⟩ : Rf).step = ⟨q.l, pi + 1, true⟩ := rfl
      rw [hst2] at he
      refine callN [(0, 0)] (qterm_good ⟨q.l, pi + 1, true⟩ hb) ?_ 
      conv => whnf
      refine ⟨⟨⟩, rfl, ?_⟩
      generalize hzz : (⟨q.l, pi + 1, true⟩ : Rf).term = z at *
      have h3 : z.2.l = q.l := h2.1
      have h4 : pi + 1 ≤ z.2.i := h2.2.1
      have hU2 : U = ((ts ++ [z.1]) ++ (Rf.args f z.2).1, (Rf.args f z.2).2) := by rw [he]; simp
      conv => whnf
      refine ⟨⟨⟩, by dsimp only; simp only [List.length_map, List.length_cons, List.length_nil]; omega, ?_⟩
      conv => whnf
      refine ⟨by kernel_rfl, ?_⟩
      conv => whnf
      refine ⟨z.2.l.length - z.2.i, by show z.2.l.length - z.2.i < q.l.length - pi; rw [h3]; omega, f, ts ++ [z.1], z.2, rfl, h3, by rw [h3]; omega, by simp; omega, hU2, ?_⟩
      rw [show trmV (y.1 :: (ts ++ [z.1])) = trmV (y.1 :: ts) ++ [z.1.c] from by simp]
theorem refQGo_len : ∀ (s out : Bs), (refQGo out s).1.length ≤ out.length + s.length := by
  intro s out
  fun_induction refQGo out s <;> simp_all <;> omega
theorem refQuoted_len (s : Bs) : (refQuotedS s).1.length ≤ s.length := by
  unfold refQuotedS
  split
  · split
    · have := refQGo_len (by assumption) []
      rename_i c d r _
      have := refQGo_len (d :: r) []
      simp at this ⊢; omega
    · simp
  · simp
def trmL (t : Trm) : Prop := t.v.length ≤ 1000000 ∧ t.x.s.length ≤ 1000000
theorem Rf.name_b {q : Rf} (hb : tokB q.l) : q.name.1.length ≤ 1000000 := by
  unfold Rf.name
  split
  · rename_i t ht
    split
    · exact Nat.le_trans (hb.2 t (tok_lt ht).2) (by omega)
    · simp
  · simp
theorem Rf.term_b {q : Rf} (hb : tokB q.l) : trmL q.term.1 := by
  unfold Rf.term
  split
  · rename_i t ht
    have h := hb.2 t (tok_lt ht).2
    split
    · unfold refTerm trmL
      have hq := refQuoted_len t.t
      split
      · exact ⟨Nat.le_trans h (by omega), Nat.zero_le _⟩
      · split
        · exact ⟨Nat.zero_le _, Nat.zero_le _⟩
        · split
          · exact ⟨Nat.zero_le _, Nat.le_trans hq (Nat.le_trans h (by omega))⟩
          · exact ⟨Nat.zero_le _, Nat.le_trans h (by omega)⟩
    · exact ⟨Nat.zero_le _, Nat.zero_le _⟩
  · exact ⟨Nat.zero_le _, Nat.zero_le _⟩
theorem Rf.args_b : ∀ (f : Nat) {q : Rf}, tokB q.l → ∀ t ∈ (Rf.args f q).1, trmL t
  | 0, q, hb => fun t ht => by cases ht
  | f + 1, q, hb => by
    rw [Rf.args]
    split
    · intro t ht
      have h1 := Rf.term_l q.step
      rcases List.mem_cons.1 ht with rfl | ht
      · exact Rf.term_b (q := q.step) hb
      · exact Rf.args_b f (q := q.step.term.2) (by rw [h1.1]; exact hb) t ht
    · intro t ht; cases ht
theorem Rf.atom_b {q : Rf} (hb : tokB q.l) : atmL q.atom.1 := by
  have hn := Rf.name_l q
  have hnb := Rf.name_b hb
  cases h : (q.name.2.ok && q.name.2.is 5 [40]) with
  | false => rw [qatom_no h]; exact ⟨hnb, fun t ht => by cases ht⟩
  | true =>
    rw [qatom_yes h]
    have hb2 : tokB q.name.2.step.l := by show tokB q.name.2.l; rw [hn.1]; exact hb
    have h1 := Rf.term_l q.name.2.step
    refine ⟨hnb, fun t ht => ?_⟩
    rcases List.mem_cons.1 ht with rfl | ht
    · exact Rf.term_b hb2
    · exact Rf.args_b _ (by rw [h1.1]; exact hb2) t ht
/-- ReadAtom of the page -/
theorem qreadA_good (l : List Tok) (i : Nat) (hb : tokB l) (hi : i ≤ l.length) : Good Tryz.prog 68 [.sl 4 (toksV l), .int .i64 i] [] [.agg (readA l i).1.c, .int .i64 (readA l i).2.1, .int .i64 (readA l i).2.2] [] := by
  rw [readA_ref hi]
  refine good_of hP Tryz.func68 (by kernel_rfl) (lv := [0, 1, 4, 5, 6, 7, 8, 13, 21, 27]) (js := []) ⟨rfl, rfl, rfl, rfl, rfl, rfl, _, rfl, ?_⟩
  have hl := hb.1
  conv => whnf
  refine call0 (in9_good i 0 (toksV l).length) ?_
  rw [List.length_map, decide_eq_true (by omega)]
  conv => whnf
  refine callN [(71, 0)] (qatom_good ⟨l, i, true⟩ hb) ?_ 
  conv => whnf
  refine ⟨⟨⟩, rfl, ?_⟩
  conv => whnf
  have hab := Rf.atom_b (q := ⟨l, i, true⟩) hb
  unfold refReadA
  dsimp only
  generalize (⟨l, i, true⟩ : Rf).atom = x at *
  obtain ⟨a, ⟨xl, xi, xo⟩⟩ := x
  cases xo with
  | false =>
    dsimp only
    rw [if_neg (by simp)]
    conv => whnf
    refine ⟨by kernel_rfl, ?_⟩
    conv => whnf
    exact fin0 rfl trivial
  | true =>
  dsimp only
  rw [if_pos rfl]
  conv => whnf
  refine call0 (refAtom_good a hab) ?_
  cases ha : atomOk a with
  | false =>
    rw [if_neg (by simp)]
    conv => whnf
    exact fin0 rfl trivial
  | true =>
    rw [if_pos rfl]
    conv => whnf
    refine ⟨by kernel_rfl, ?_⟩
    conv => whnf
    exact fin0 rfl trivial
/-- the place of a sign -/
theorem qplace_good (l : List Tok) (i : Nat) (hl : l.length ≤ 1000000) (hp : ∀ t ∈ l, 0 ≤ t.p.2 ∧ t.p.2 ≤ 1000000) : Good Tryz.prog 69 [.sl 4 (toksV l), .int .i64 i] [] [.agg [.int .i64 (placeT l i).1, .int .i64 (placeT l i).2]] [] := by
  refine good_of hP Tryz.func69 (by kernel_rfl) (lv := [0, 1, 4, 5, 9, 17]) (js := []) ⟨rfl, rfl, rfl, rfl, rfl, rfl, _, rfl, ?_⟩
  unfold placeT
  conv => whnf
  refine branch_of (fun h => ?_) (fun h => ?_)
  · have h := of_decide_eq_true h
    rw [List.length_map] at h
    have hi : i < l.length := by omega
    rw [List.getElem?_eq_getElem hi]
    conv => whnf
    refine ⟨Tok.c l[i], idxM hi rfl, ?_⟩
    conv => whnf
    exact fin0 rfl trivial
  · have h := of_decide_eq_false h
    rw [List.length_map] at h
    rw [List.getElem?_eq_none (by omega)]
    conv => whnf
    refine branch_of (fun h2 => ?_) (fun h2 => ?_)
    · have h2 := of_decide_eq_true h2
      rw [List.length_map] at h2
      have : l = [] := List.eq_nil_of_length_eq_zero (by omega)
      subst this
      conv => whnf
      exact fin0 rfl trivial
    · have h2 := of_decide_eq_false h2
      rw [List.length_map] at h2
      have hne : l ≠ [] := fun e => by subst e; exact h2 rfl
      have hpos : 0 < l.length := List.length_pos_iff.2 hne
      have hk : l.length - 1 < l.length := by omega
      rw [List.getLast?_eq_getElem?, List.getElem?_eq_getElem hk]
      have hpp := hp _ (List.getElem_mem hk)
      conv => whnf
      refine ⟨Tok.c l[l.length - 1], idxM hk (by rw [List.length_map, wr (by omega) (by omega)]; omega), ?_⟩
      conv => whnf
      refine fin0 ?_ trivial
      rw [wr (by omega) (by omega)]
end Go.PV
namespace Go.PV
open Go Go.Proofs
set_option maxRecDepth 100000
def recS : List Bs := [[43], [45], [42]]
theorem reckons_good (r : Rd) (hl : r.l.length ≤ 1000000) : Good Tryz.prog 265 [.ptr 0 0 0] [r.ob] [.int .i64 r.reckons.1] [r.reckons.2.ob] := by
  refine good_of hP Tryz.func265 (by kernel_rfl) (lv := [0, 2, 3, 4, 5, 6, 7, 8, 14, 19]) (js := []) ⟨rfl, rfl, rfl, rfl, rfl, rfl, _, rfl, ?_⟩
  conv => whnf
  refine loop_of hP [0, 2, 3, 4, 5, 6, 7, 8, 14, 19] [] [0, 5, 6, 7] [69] [] (fun n st => ∃ k : Nat, n = 3 - k ∧ k ≤ 3 ∧ (∀ j (h : j < recS.length), j < k → r.see 5 recS[j] = false) ∧ st = ⟨[(0, .ptr 0 0 0), (5, .own 69 0), (6, .int .i64 3), (7, .int .i64 k)], [(0, r.ob), (69, .arr 0 false 1 (strV recS))]⟩) 3 ?_ ?_
  · conv => whnf
    exact ⟨0, rfl, by omega, fun j _ h => by omega, rfl⟩
  · rintro n st ⟨k, rfl, hk, hn, rfl⟩
    conv => whnf
    refine branch_of (fun h => ?_) (fun h => ?_)
    · have h := of_decide_eq_true h
      have hk' : k < recS.length := by simp [recS]; omega
      conv => whnf
      refine ⟨⟨⟩, idxB (f := fun x => [V.str x]) hk' rfl, ?_⟩
      conv => whnf
      refine ⟨[.str recS[k]], (idxM (f := fun x => [V.str x]) hk' rfl).2, ?_⟩
      conv => whnf
      refine callN [(0, 0)] (rsign_good' r recS[k] hl) ?_ 
      conv => whnf
      refine ⟨⟨⟩, rfl, ?_⟩
      unfold Rd.word
      cases hs : r.see 5 recS[k] with
      | true =>
        have e : r.reckons = ((3 + k : Int), r.step) := by
          unfold Rd.reckons
          have h3 : k = 0 ∨ k = 1 ∨ k = 2 := by omega
          rcases h3 with rfl | rfl | rfl
          · have hs : r.see 5 [43] = true := hs
            rw [if_pos hs]; rfl
          · have hs : r.see 5 [45] = true := hs
            have h0 : r.see 5 [43] = false := hn 0 (by decide) (by omega)
            rw [h0, if_neg (by simp), if_pos hs]; rfl
          · have hs : r.see 5 [42] = true := hs
            have h0 : r.see 5 [43] = false := hn 0 (by decide) (by omega)
            have h1 : r.see 5 [45] = false := hn 1 (by decide) (by omega)
            rw [h0, if_neg (by simp), h1, if_neg (by simp), if_pos hs]; rfl
        rw [if_pos rfl, e]
        conv => whnf
        refine ⟨[], by rw [wr (by omega) (by omega)]; rfl, ?_⟩
        conv => whnf
        exact ⟨⟨⟩, rfl, trivial⟩
      | false =>
        rw [if_neg (by simp)]
        conv => whnf
        refine ⟨3 - (k + 1), by omega, k + 1, rfl, by omega, fun j hj hjk => ?_, ?_⟩
        · by_cases e : j = k
          · subst e; exact hs
          · exact hn j hj (by omega)
        · rw [wr (by omega) (by omega)]; rfl
    · have h := of_decide_eq_false h
      have h0 : r.see 5 [43] = false := hn 0 (by decide) (by omega)
      have h1 : r.see 5 [45] = false := hn 1 (by decide) (by omega)
      have h2 : r.see 5 [42] = false := hn 2 (by decide) (by omega)
      have e : r.reckons = (0, if r.isOpen then r.fail else r) := by
        unfold Rd.reckons; rw [h0, h1, h2]; rfl
      rw [e]
      conv => whnf
      refine callN [(0, 0)] (open_good r) ?_ 
      conv => whnf
      refine ⟨⟨⟩, rfl, ?_⟩
      cases r.isOpen with
      | true =>
        rw [if_pos rfl]
        conv => whnf
        refine ⟨[], rfl, ?_⟩
        conv => whnf
        exact ⟨⟨⟩, rfl, trivial⟩
      | false =>
        rw [if_neg (by simp)]
        conv => whnf
        refine ⟨[], rfl, ?_⟩
        conv => whnf
        exact ⟨⟨⟩, rfl, trivial⟩
theorem rpart_leaf (n : Nat) (r : Rd) (h : r.see 5 [40] = false) : r.part n = ([⟨if r.term.1.v = [] then 2 else 1, r.term.1.v, r.term.1.x⟩], r.term.2) := by
  cases n <;> (unfold Rd.part; rw [h]; rfl)
theorem rpart_leaf_good (n : Nat) (r : Rd) (d : Nat) (hb : tokB r.l) (hs : r.see 5 [40] = false) : Good Tryz.prog 250 [.ptr 0 0 0, .int .i64 d] [r.ob] [.own 1 0] [(r.part n).2.ob, .arr 0 false 5 (stpV (r.part n).1)] := by
  obtain ⟨hl, ht⟩ := hb
  refine good_of hP Tryz.func250 (by kernel_rfl) (lv := [0, 1, 4, 5, 6, 7, 8, 11, 16, 25, 37]) (js := []) ⟨rfl, rfl, rfl, rfl, rfl, rfl, _, rfl, ?_⟩
  conv => whnf
  refine callN [(0, 0)] (rsign_good' r [40] hl) ?_ 
  conv => whnf
  refine ⟨⟨⟩, rfl, ?_⟩
  unfold Rd.word
  rw [hs, if_neg (by simp), rpart_leaf n r hs]
  conv => whnf
  refine callN [(0, 0)] (rterm_good r hl ht) ?_ 
  conv => whnf
  refine ⟨⟨⟩, rfl, ?_⟩
  generalize r.term = x
  conv => whnf
  refine branch_of (fun h => ?_) (fun h => ?_)
  · rw [Bool.not_eq_true'] at h
    have h : ¬ x.1.v = [] := of_decide_eq_false h
    rw [if_neg h]
    conv => whnf
    refine ⟨[(87, 0)], rfl, ?_⟩
    conv => whnf
    refine ⟨⟨⟩, rfl, ?_⟩
    conv => whnf
    exact ⟨⟨⟩, rfl, trivial⟩
  · rw [Bool.not_eq_false'] at h
    have h : x.1.v = [] := of_decide_eq_true h
    rw [if_pos h]
    conv => whnf
    refine ⟨[(87, 0)], rfl, ?_⟩
    conv => whnf
    refine ⟨⟨⟩, rfl, ?_⟩
    conv => whnf
    exact ⟨⟨⟩, rfl, trivial⟩
theorem rpart_good (n : Nat) : ∀ (r : Rd) (d : Nat), tokB r.l → d + n = 15 → Good Tryz.prog 250 [.ptr 0 0 0, .int .i64 d] [r.ob] [.own 1 0] [(r.part n).2.ob, .arr 0 false 5 (stpV (r.part n).1)] := by
  induction n with
  | zero =>
    rintro r d ⟨hl, ht⟩ hd
    cases hs : r.see 5 [40] with
    | false => exact rpart_leaf_good 0 r d ⟨hl, ht⟩ hs
    | true =>
      refine good_of hP Tryz.func250 (by kernel_rfl) (lv := [0, 1, 4, 5, 6, 7, 8, 11, 16, 25, 37]) (js := []) ⟨rfl, rfl, rfl, rfl, rfl, rfl, _, rfl, ?_⟩
      conv => whnf
      refine callN [(0, 0)] (rsign_good' r [40] hl) ?_ 
      conv => whnf
      refine ⟨⟨⟩, rfl, ?_⟩
      unfold Rd.word
      have e : r.part 0 = ([], { r.step with over := true }) := by unfold Rd.part; rw [if_pos hs]
      rw [hs, if_pos rfl, e]
      conv => whnf
      refine branch_of (fun h => ?_) (fun h => ?_)
      · conv => whnf
        refine ⟨[(200001, 0)], rfl, ?_⟩
        conv => whnf
        refine ⟨⟨⟩, rfl, ?_⟩
        conv => whnf
        exact ⟨⟨⟩, rfl, trivial⟩
      · exact absurd (of_decide_eq_false h) (by omega)
  | succ n ih =>
    rintro r d ⟨hl, ht⟩ hd
    cases hs : r.see 5 [40] with
    | false => exact rpart_leaf_good (n + 1) r d ⟨hl, ht⟩ hs
    | true =>
      refine good_of hP Tryz.func250 (by kernel_rfl) (lv := [0, 1, 4, 5, 6, 7, 8, 11, 16, 25, 37]) (js := []) ⟨rfl, rfl, rfl, rfl, rfl, rfl, _, rfl, ?_⟩
      conv => whnf
      refine callN [(0, 0)] (rsign_good' r [40] hl) ?_ 
      conv => whnf
      refine ⟨⟨⟩, rfl, ?_⟩
      unfold Rd.word
      rw [hs, if_pos rfl]
      conv => whnf
      refine branch_of (fun h => ?_) (fun h => ?_)
      · exact absurd (of_decide_eq_true h) (by omega)
      have hw : IntKind.i64.wrap ((d : Int) + 1) = (d + 1 : Nat) := by rw [wr (by omega) (by omega)]; rfl
      have hr1 := Rd.part_l n r.step
      have hr2 := Rd.reckons_l (r.step.part n).2
      have hr3 := Rd.part_l n (r.step.part n).2.reckons.2
      have hn1 := Rd.part_len n r.step
      have hn2 := Rd.part_len n (r.step.part n).2.reckons.2
      have hp : 2 ^ (n + 1) ≤ 2 ^ 15 := Nat.pow_le_pow_right (by omega) (by omega)
      have hp2 : (2 : Nat) ^ 15 = 32768 := by decide
      conv => whnf
      rw [hw]
      refine callN [(0, 0)] (ih r.step (d + 1) ⟨hl, ht⟩ (by omega)) ?_ 
      conv => whnf
      refine ⟨⟨⟩, rfl, ?_⟩
      conv => whnf
      refine callN [(0, 0)] (reckons_good (r.step.part n).2 (by rw [hr1.1]; exact hl)) ?_ 
      conv => whnf
      refine ⟨⟨⟩, rfl, ?_⟩
      conv => whnf
      refine callN [(0, 0)] (open_good (r.step.part n).2.reckons.2) ?_ 
      conv => whnf
      refine ⟨⟨⟩, rfl, ?_⟩
      cases ho : (r.step.part n).2.reckons.2.isOpen with
      | false =>
        have e : r.part (n + 1) = ([], (r.step.part n).2.reckons.2) := by
          rw [Rd.part, if_pos hs]; dsimp only; rw [ho]; rfl
        rw [e]
        conv => whnf
        refine ⟨[(200001, 0)], rfl, ?_⟩
        conv => whnf
        refine ⟨⟨⟩, rfl, ?_⟩
        conv => whnf
        exact ⟨⟨⟩, rfl, trivial⟩
      | true =>
        have e : r.part (n + 1) = ((r.step.part n).1 ++ ((r.step.part n).2.reckons.2.part n).1 ++ [⟨(r.step.part n).2.reckons.1, [], zeroV⟩], ((r.step.part n).2.reckons.2.part n).2.want 5 [41]) := by
          rw [Rd.part, if_pos hs]; dsimp only; rw [if_pos ho]
        rw [show (r.part (n + 1)).2 = ((r.step.part n).2.reckons.2.part n).2.want 5 [41] from by rw [e], show stpV (r.part (n + 1)).1 = (stpV (r.step.part n).1 ++ stpV ((r.step.part n).2.reckons.2.part n).1) ++ [Stp.c ⟨(r.step.part n).2.reckons.1, [], zeroV⟩] from by rw [e, stpV, List.map_append, List.map_append]; rfl]
        have hrl : (r.step.part n).2.reckons.2.l = r.l := hr2.1.trans hr1.1
        conv => whnf
        rw [hw]
        refine callN [(0, 0)] (ih (r.step.part n).2.reckons.2 (d + 1) ⟨by rw [hrl]; exact hl, by rw [hrl]; exact ht⟩ (by omega)) ?_ 
        conv => whnf
        refine ⟨⟨⟩, rfl, ?_⟩
        conv => whnf
        refine ⟨⟨⟩, by dsimp only; rw [List.length_map, List.length_map]; omega, ?_⟩
        conv => whnf
        refine callN [(0, 0)] (want_good ((r.step.part n).2.reckons.2.part n).2 [41] (by rw [hr3.1, hrl]; exact hl)) ?_ 
        conv => whnf
        refine ⟨⟨⟩, rfl, ?_⟩
        conv => whnf
        refine ⟨⟨⟩, by dsimp only; rw [List.length_append, List.length_map, List.length_map]; simp only [List.length_cons, List.length_nil]; omega, ?_⟩
        conv => whnf
        refine ⟨[(3072, 2)], rfl, ?_⟩
        conv => whnf
        refine ⟨⟨⟩, rfl, ?_⟩
        conv => whnf
        exact ⟨⟨⟩, rfl, trivial⟩
theorem rexpr_good (r : Rd) (hb : tokB r.l) : Good Tryz.prog 223 [.ptr 0 0 0] [r.ob] [.sl 5 (stpV r.expr.1)] [r.expr.2.ob] := by
  refine good_of hP Tryz.func223 (by kernel_rfl) (lv := [0, 2, 3, 6, 11]) (js := []) ⟨rfl, rfl, rfl, rfl, rfl, rfl, _, rfl, ?_⟩
  unfold Rd.expr
  conv => whnf
  refine callN [(0, 0)] (open_good r) ?_ 
  conv => whnf
  refine ⟨⟨⟩, rfl, ?_⟩
  cases ho : r.isOpen with
  | false =>
    rw [if_neg (by simp)]
    conv => whnf
    refine ⟨[], rfl, ?_⟩
    conv => whnf
    exact ⟨⟨⟩, rfl, trivial⟩
  | true =>
    rw [if_pos rfl]
    conv => whnf
    refine callN [(0, 0)] (rpart_good 15 r 0 hb rfl) ?_ 
    conv => whnf
    refine ⟨⟨⟩, rfl, ?_⟩
    generalize r.part 15 = x
    by_cases hx : 15 < x.1.length
    · dsimp only
      rw [if_pos hx]
      conv => whnf
      refine branch_of (fun h => ?_) (fun h => ?_)
      · conv => whnf
        refine ⟨[], rfl, ?_⟩
        conv => whnf
        exact ⟨⟨⟩, rfl, trivial⟩
      · have h := of_decide_eq_false h
        rw [List.length_map] at h; omega
    · dsimp only
      rw [if_neg hx]
      conv => whnf
      refine branch_of (fun h => ?_) (fun h => ?_)
      · have h := of_decide_eq_true h
        rw [List.length_map] at h; omega
      · conv => whnf
        refine ⟨[], rfl, ?_⟩
        conv => whnf
        exact ⟨⟨⟩, rfl, trivial⟩
/-- the stack's texts, as they lie -/
theorem exprText_good (l : List Stp) (hb : opsB l) : Good Tryz.prog 170 [.sl 5 (stpV l)] [] [.str (if exprOk l then exprT l else []), .int .i64 (if exprOk l then 0 else 1)] [] := by
  refine good_of hP Tryz.func170 (by kernel_rfl) (lv := [0, 2, 3, 4, 5, 7, 8, 9, 13, 15, 16, 17, 18, 28]) (js := []) ⟨rfl, rfl, rfl, rfl, rfl, rfl, _, rfl, ?_⟩
  conv => whnf
  refine call0 (xcheck_good l hb) ?_
  cases hk : exprOk l with
  | false =>
    conv => whnf
    exact fin0 rfl trivial
  | true =>
    rw [if_pos rfl, if_pos rfl]
    obtain ⟨hl, ho⟩ := hb
    have hk2 := hk
    unfold exprOk at hk
    simp only [Bool.and_eq_true, decide_eq_true_eq] at hk
    obtain ⟨⟨hl1, hl2⟩, hd⟩ := hk
    conv => whnf
    refine loop_of hP [0, 2, 3, 4, 5, 7, 8, 9, 13, 15, 16, 17, 18, 28] [] [5, 15, 16, 17] [69] [.slot 5 1] (fun n st => ∃ (k : Nat) (S : List Bs), n = l.length - k ∧ k ≤ l.length ∧ depGo 0 l = depGo S.length (l.drop k) ∧ xtGo [] l = xtGo S (l.drop k) ∧ (S.map List.length).sum ≤ 130 * k ∧ S.length ≤ k ∧ st = ⟨[(5, .own 69 0), (15, .sl 5 (stpV l)), (16, .int .i64 l.length), (17, .int .i64 k)], [(69, .arr 0 false 1 (strV S.reverse))]⟩) l.length ?_ ?_
    · conv => whnf
      exact ⟨0, [], rfl, Nat.zero_le _, rfl, rfl, Nat.le_refl _, Nat.le_refl _, by rw [← List.length_map (f := Stp.c)]; rfl⟩
    · rintro n st ⟨k, S, rfl, hkl, he, ht, hsum, hSl, rfl⟩
      conv => whnf
      refine branch_of (fun h1 => ?_) (fun h1 => ?_)
      · have h1 := of_decide_eq_true h1
        have hk' : k < l.length := by omega
        rw [List.drop_eq_getElem_cons hk', depGo] at he
        rw [List.drop_eq_getElem_cons hk'] at ht
        have hs : stpOk l[k] = true := by
          cases hs : stpOk l[k] with
          | true => rfl
          | false => rw [hs, if_neg (by simp), hd] at he; cases he
        rw [hs, if_pos rfl] at he
        have h5 := stpOk_k hs
        have hob := ho _ (List.getElem_mem hk')
        have ix := idxM (f := Stp.c) hk' (x := (k : Int)) rfl
        conv => whnf
        generalize l[k] = o at *
        refine ⟨Stp.c o, ix, ?_⟩
        have hw4 : IntKind.i64.wrap ((k : Int) + 1) = (k + 1 : Nat) := by rw [wr (by omega) (by omega)]; rfl
        have push : o.k ≤ 2 → xtGo [] l = xtGo (termT ⟨o.v, o.x⟩ :: S) (l.drop (k + 1)) ∧ depGo 0 l = depGo (S.length + 1) (l.drop (k + 1)) ∧ (termT ⟨o.v, o.x⟩).length ≤ 122 := fun h => by
          rw [if_pos h] at he
          rw [xt_push h] at ht
          exact ⟨ht, he, termT_len (stpOk_push hs h).1⟩
        have snoc : ∀ t : Bs, strV (t :: S).reverse = strV S.reverse ++ [[.str t]] := fun t => by rw [List.reverse_cons]; exact List.map_append
        conv => whnf
        refine branch_of (fun h2 => ?_) (fun h2 => ?_)
        · have h2 : o.k = 1 := of_decide_eq_true h2
          obtain ⟨p1, p2, p3⟩ := push (by omega)
          conv => whnf
          refine call0 (term_good ⟨o.v, o.x⟩ hob) ?_
          conv => whnf
          refine ⟨⟨⟩, by dsimp only; simp only [List.length_map, List.length_reverse, List.length_cons, List.length_nil]; omega, ?_⟩
          conv => whnf
          refine ⟨l.length - (k + 1), by omega, k + 1, termT ⟨o.v, o.x⟩ :: S, rfl, by omega, p2, p1, by simp only [List.map_cons, List.sum_cons]; omega, by simp; omega, ?_⟩
          rw [hw4, snoc]
        have h2 : ¬ o.k = 1 := of_decide_eq_false h2
        conv => whnf
        refine branch_of (fun h3 => ?_) (fun h3 => ?_)
        · have h3 : o.k = 2 := of_decide_eq_true h3
          obtain ⟨p1, p2, p3⟩ := push (by omega)
          conv => whnf
          refine call0 (term_good ⟨o.v, o.x⟩ hob) ?_
          conv => whnf
          refine ⟨⟨⟩, by dsimp only; simp only [List.length_map, List.length_reverse, List.length_cons, List.length_nil]; omega, ?_⟩
          conv => whnf
          refine ⟨l.length - (k + 1), by omega, k + 1, termT ⟨o.v, o.x⟩ :: S, rfl, by omega, p2, p1, by simp only [List.map_cons, List.sum_cons]; omega, by simp; omega, ?_⟩
          rw [hw4, snoc]
        have h3 : ¬ o.k = 2 := of_decide_eq_false h3
        rw [if_neg (by omega)] at he
        have hS2 : ¬ S.length < 2 := fun h => by rw [if_pos h, hd] at he; cases he
        rw [if_neg hS2] at he
        match S, hS2, he, ht, hsum, hSl with
        | [], h, _, _, _, _ => simp at h
        | [_], h, _, _, _, _ => simp at h
        | b :: a :: S, _, he, ht, hsum, hSl =>
          rw [xt_op (by omega)] at ht
          simp only [List.map_cons, List.sum_cons] at hsum
          simp only [List.length_cons] at hSl
          have hop := (stpOk_op hs (by omega)).1
          have hol : (opT o.k).length = 1 := by unfold opT; split; rfl; split <;> rfl
          have hw1 : IntKind.i64.wrap (((strV (b :: a :: S).reverse).length : Int) - 2) = (S.length : Nat) := by
            rw [List.length_map, List.length_reverse, List.length_cons, List.length_cons, wr (by omega) (by omega)]; omega
          have hw2 : IntKind.i64.wrap ((S.length : Int) + 1) = (S.length + 1 : Nat) := by rw [wr (by omega) (by omega)]; rfl
          have hr : (b :: a :: S).reverse = S.reverse ++ [a, b] := by simp
          have ga : (strV (b :: a :: S).reverse)[((S.length : Nat) : Int).toNat]? = some [.str a] := by rw [hr]; simp
          have gb : (strV (b :: a :: S).reverse)[((S.length + 1 : Nat) : Int).toNat]? = some [.str b] := by rw [hr]; simp
          conv => whnf
          rw [hw1]
          refine ⟨⟨⟩, by dsimp only; rw [List.length_map, List.length_reverse, List.length_cons, List.length_cons]; omega, ?_⟩
          conv => whnf
          refine ⟨[.str a], ga, ?_⟩
          conv => whnf
          refine ⟨⟨⟩, by dsimp only; simp only [List.length_cons, List.length_nil]; omega, ?_⟩
          conv => whnf
          refine ⟨⟨⟩, by dsimp only; simp only [List.length_append, List.length_cons, List.length_nil]; omega, ?_⟩
          conv => whnf
          refine call0 (how_good o.k hop) ?_
          conv => whnf
          refine ⟨⟨⟩, by dsimp only; simp only [List.length_append, List.length_cons, List.length_nil]; omega, ?_⟩
          conv => whnf
          refine ⟨⟨⟩, by dsimp only; simp only [List.length_append, List.length_cons, List.length_nil]; omega, ?_⟩
          conv => whnf
          rw [hw2]
          refine ⟨⟨⟩, by dsimp only; rw [List.length_map, List.length_reverse, List.length_cons, List.length_cons]; omega, ?_⟩
          conv => whnf
          refine ⟨[.str b], gb, ?_⟩
          conv => whnf
          refine ⟨⟨⟩, by dsimp only; simp only [List.length_append, List.length_cons, List.length_nil]; omega, ?_⟩
          conv => whnf
          refine ⟨⟨⟩, by dsimp only; simp only [List.length_append, List.length_cons, List.length_nil]; omega, ?_⟩
          conv => whnf
          refine ⟨by kernel_rfl, ?_⟩
          conv => whnf
          have tk : (strV (b :: a :: S).reverse).take ((S.length : Nat) : Int).toNat = strV S.reverse := by rw [hr]; simp
          refine ⟨⟨⟩, by dsimp only; rw [List.length_map, List.length_reverse, List.length_cons, List.length_cons]; omega, ?_⟩
          conv => whnf
          refine ⟨⟨⟩, by dsimp only; rw [tk]; simp only [List.length_map, List.length_reverse, List.length_cons, List.length_nil]; omega, ?_⟩
          conv => whnf
          refine ⟨l.length - (k + 1), by omega, k + 1, nodeT o.k a b :: S, rfl, by omega, by simpa using he, ht, ?_, by simp; omega, ?_⟩
          · simp only [List.map_cons, List.sum_cons, nodeT, List.length_append, List.length_cons, List.length_nil, hol]; omega
          · rw [hw4, show strV (nodeT o.k a b :: S).reverse = strV S.reverse ++ [[.str (nodeT o.k a b)]] from by rw [List.reverse_cons]; exact List.map_append, tk]; rfl
      · have h1 := of_decide_eq_false h1
        have hdr : l.drop k = [] := List.drop_eq_nil_iff.2 (by omega)
        rw [hdr, depGo] at he
        rw [hdr, xtGo] at ht
        match S, he, ht with
        | [T], _, ht =>
          conv => whnf
          refine ⟨⟨⟩, by simp, ?_⟩
          conv => whnf
          refine ⟨_, rfl, ?_⟩
          conv => whnf
          refine fin0 ?_ trivial
          unfold exprT; rw [ht]; rfl
        | [], he, _ => rw [hd] at he; simp at he
        | _ :: _ :: _, he, _ => rw [hd] at he; simp at he
end Go.PV
namespace Go.PV
open Go Go.Proofs
set_option maxRecDepth 100000
theorem fclos_good (v : Val) (h : v.s.length ≤ 1000000) : Good Tryz.prog 138 [.agg v.c] [] [.bool (!checkS v)] [] := by
  refine good_of hP Tryz.func138 (by kernel_rfl) (lv := [0, 1, 2]) (js := []) ⟨rfl, rfl, rfl, rfl, rfl, rfl, _, rfl, ?_⟩
  conv => whnf
  refine call0 (check_good v (by omega)) ?_
  cases checkS v with
  | false =>
    conv => whnf
    exact fin0 rfl trivial
  | true =>
    conv => whnf
    exact fin0 rfl trivial
theorem indexFV_good (l : List Val) (hl : l.length ≤ 1000000) (g : FuncId) (p : Val → Bool) (hg : ∀ t ∈ l, Good Tryz.prog g [.agg t.c] [] [.bool (p t)] []) : Good Tryz.prog 202 [.sl 3 (valV l), .fn g []] [] [.int .i64 (match l.findIdx? p with | some i => (i : Int) | none => -1)] [] := by
  refine good_of hP Tryz.func202 (by kernel_rfl) (lv := [0, 1, 4, 5, 7, 8, 9, 16]) (js := []) ⟨rfl, rfl, rfl, rfl, rfl, rfl, _, rfl, ?_⟩
  conv => whnf
  refine loop_of hP [0, 1, 4, 5, 7, 8, 9, 16] [] [0, 1, 7, 8] [] [] (fun n st => ∃ k : Nat, n = l.length - k ∧ k ≤ l.length ∧ (∀ j (h : j < l.length), j < k → p l[j] = false) ∧ st = ⟨[(0, .sl 3 (valV l)), (1, .fn g []), (7, .int .i64 l.length), (8, .int .i64 k)], []⟩) l.length ?_ ?_
  · conv => whnf
    exact ⟨0, rfl, Nat.zero_le _, fun j _ h => by omega, by rw [← List.length_map (f := Val.c)]; rfl⟩
  · rintro n st ⟨k, rfl, hk, hn, rfl⟩
    conv => whnf
    refine branch_of (fun h => ?_) (fun h => ?_)
    · have h := of_decide_eq_true h
      have hk' : k < l.length := by omega
      conv => whnf
      refine ⟨Val.c l[k], idxM hk' rfl, ?_⟩
      conv => whnf
      refine call0 (hg _ (List.getElem_mem hk')) ?_
      cases hp : p l[k] with
      | true =>
        conv => whnf
        refine fin0 ?_ trivial
        have : l.findIdx? p = some k := by
          rw [List.findIdx?_eq_some_iff_getElem]
          exact ⟨hk', hp, fun j hj => by simpa using hn j (by omega) hj⟩
        rw [this]
      | false =>
        conv => whnf
        refine ⟨l.length - (k + 1), by omega, k + 1, rfl, by omega, fun j hj hjk => ?_, ?_⟩
        · by_cases e : j = k
          · subst e; exact hp
          · exact hn j hj (by omega)
        · rw [wr (by omega) (by omega)]; rfl
    · have h := of_decide_eq_false h
      conv => whnf
      refine fin0 ?_ trivial
      have : l.findIdx? p = none := by
        rw [List.findIdx?_eq_none_iff]
        intro x hx
        obtain ⟨j, hj, rfl⟩ := List.getElem_of_mem hx
        exact hn j hj (by omega)
      rw [this]
theorem containsFV_good (l : List Val) (hl : l.length ≤ 1000000) (g : FuncId) (p : Val → Bool) (hg : ∀ t ∈ l, Good Tryz.prog g [.agg t.c] [] [.bool (p t)] []) : Good Tryz.prog 137 [.sl 3 (valV l), .fn g []] [] [.bool (l.any p)] [] := by
  refine good_of hP Tryz.func137 (by kernel_rfl) (lv := [0, 1, 4]) (js := []) ⟨rfl, rfl, rfl, rfl, rfl, rfl, _, rfl, ?_⟩
  conv => whnf
  refine call0 (indexFV_good l hl g p hg) ?_
  conv => whnf
  exact fin0 (congrArg (fun b : Bool => [V.bool b]) (any_idx l p)) trivial
theorem fcheck_good (a : Fct) (h : fctB a) : Good Tryz.prog 75 [.agg a.c] [] [.int .i64 (if factOk a then 0 else 1)] [] := by
  refine good_of hP Tryz.func75 (by kernel_rfl) (lv := [0, 1, 2, 17]) (js := []) ⟨rfl, rfl, rfl, rfl, rfl, rfl, _, rfl, ?_⟩
  conv => whnf
  refine call0 (fname_good a.n h.1) ?_
  cases hn : nameS a.n with
  | false =>
    conv => whnf
    exact fin0 (by simp [factOk, hn]) trivial
  | true =>
    conv => whnf
    refine branch_of (fun h1 => ?_) (fun h1 => ?_)
    · have h1 := of_decide_eq_true h1
      rw [List.length_map] at h1
      conv => whnf
      exact fin0 (by simp [factOk]; omega) trivial
    · have h1 := of_decide_eq_false h1
      rw [List.length_map] at h1
      conv => whnf
      refine call0 (containsFV_good a.a h.2.1 _ (fun t => !checkS t) (fun t ht => fclos_good t (h.2.2 t ht))) ?_
      have e : factOk a = !(a.a.any fun t => !checkS t) := by
        have h1 : decide (a.a.length ≤ 5) = true := by simp; omega
        rw [factOk, hn, h1, List.not_any_eq_all_not]; simp
      rw [e]
      cases a.a.any fun t => !checkS t with
      | true =>
        conv => whnf
        exact fin0 rfl trivial
      | false =>
        conv => whnf
        exact fin0 rfl trivial
theorem ftext_good (f : Fct) (h : fctB f) : Good Tryz.prog 64 [.agg f.c] [] [.str (if factOk f then factT f else []), .int .i64 (if factOk f then 0 else 1)] [] := by
  refine good_of hP Tryz.func64 (by kernel_rfl) (lv := [0, 1, 2, 3, 4, 5, 7, 8, 13, 16, 17, 18, 19, 34]) (js := []) ⟨rfl, rfl, rfl, rfl, rfl, rfl, _, rfl, ?_⟩
  conv => whnf
  refine call0 (fcheck_good f h) ?_
  cases hk : factOk f with
  | false =>
    conv => whnf
    exact fin0 rfl trivial
  | true =>
    have hl : f.a.length ≤ 5 := by unfold factOk at hk; simp at hk; exact hk.1.2
    have hn : f.n.length ≤ 1000000 := h.1
    conv => whnf
    refine loop_of hP [0, 1, 2, 3, 4, 5, 7, 8, 13, 16, 17, 18, 19, 34] [] [1, 5, 16, 17, 18] [65, 69] [.slot 5 1] (fun n st => ∃ k : Nat, n = f.a.length - k ∧ k ≤ f.a.length ∧ st = ⟨[(1, .ptr 65 0 0), (5, .own 69 0), (16, .sl 3 (valV f.a)), (17, .int .i64 f.a.length), (18, .int .i64 k)], [(65, .box 0 [.str f.n, .sl 3 (valV f.a)]), (69, .arr 0 false 1 (strV ((f.a.take k).map textV)))]⟩) f.a.length ?_ ?_
    · conv => whnf
      exact ⟨0, rfl, Nat.zero_le _, by rw [← List.length_map (f := Val.c)]; rfl⟩
    · rintro n st ⟨k, rfl, hkl, rfl⟩
      conv => whnf
      refine branch_of (fun h1 => ?_) (fun h1 => ?_)
      · have h1 := of_decide_eq_true h1
        have hk' : k < f.a.length := by omega
        conv => whnf
        refine ⟨Val.c f.a[k], idxM hk' rfl, ?_⟩
        conv => whnf
        refine call0 (text_good f.a[k] (h.2.2 _ (List.getElem_mem hk'))) ?_
        conv => whnf
        refine ⟨⟨⟩, by dsimp only; simp only [List.length_map, List.length_take, List.length_cons, List.length_nil]; omega, ?_⟩
        conv => whnf
        refine ⟨f.a.length - (k + 1), by omega, k + 1, rfl, by omega, ?_⟩
        rw [wr (by omega) (by omega), map_snoc _ f.a hk', show strV ((f.a.take k).map textV ++ [textV f.a[k]]) = strV ((f.a.take k).map textV) ++ [[.str (textV f.a[k])]] from List.map_append]
        rfl
      · have h1 := of_decide_eq_false h1
        have : k = f.a.length := by omega
        subst this
        rw [List.take_length]
        have hjl : (Lib.join (f.a.map textV) [44, 32]).length ≤ 1000000 := by
          by_cases hz : f.a = []
          · rw [hz]; exact Nat.zero_le _
          · have e := congrArg List.length (factT_join hz)
            have := factT_len hk
            simp only [List.length_append] at e
            omega
        conv => whnf
        refine branch_of (fun h2 => ?_) (fun h2 => ?_)
        · have h2 := of_decide_eq_true h2
          rw [List.length_map, List.length_map] at h2
          have hz : f.a = [] := List.eq_nil_of_length_eq_zero (by omega)
          conv => whnf
          exact fin0 (by rw [if_pos rfl, if_pos rfl, factT_nil hz]) trivial
        · have h2 := of_decide_eq_false h2
          rw [List.length_map, List.length_map] at h2
          have hz : f.a ≠ [] := fun e => by rw [e] at h2; exact h2 rfl
          conv => whnf
          refine ⟨⟨⟩, by dsimp only; simp only [List.length_cons, List.length_nil]; omega, ?_⟩
          conv => whnf
          refine call0 (join_good (f.a.map textV) [44, 32] (by simp; omega) (by omega)) ?_
          conv => whnf
          refine ⟨⟨⟩, by dsimp only; simp only [List.length_append, List.length_cons, List.length_nil]; omega, ?_⟩
          conv => whnf
          refine ⟨⟨⟩, by dsimp only; simp only [List.length_append, List.length_cons, List.length_nil]; omega, ?_⟩
          conv => whnf
          refine ⟨by kernel_rfl, ?_⟩
          conv => whnf
          exact fin0 (by rw [if_pos rfl, if_pos rfl, ← factT_join hz]) trivial
theorem keepFact_good (a b : Fct) (ha : a.a.length ≤ 1000000) : Good Tryz.prog 73 [.agg a.c, .agg b.c] [] [.bool (decide (a = b))] [] := by
  obtain ⟨na, a⟩ := a
  obtain ⟨nb, b⟩ := b
  dsimp only at ha
  refine good_of hP Tryz.func73 (by kernel_rfl) (lv := [0, 1, 2, 3, 4, 5, 19, 24, 37]) (js := []) ⟨rfl, rfl, rfl, rfl, rfl, rfl, _, rfl, ?_⟩
  conv => whnf
  refine branch_of (fun h => ?_) (fun h => ?_)
  · rw [Bool.not_eq_true'] at h
    have h : ¬ na = nb := of_decide_eq_false h
    conv => whnf
    exact fin0 (by rw [decide_eq_false (by intro e; injection e with e _; exact h e)]) trivial
  rw [Bool.not_eq_false'] at h
  have hnm : na = nb := of_decide_eq_true h
  conv => whnf
  refine branch_of (fun h => ?_) (fun h => ?_)
  · rw [Bool.not_eq_true'] at h
    have h := of_decide_eq_false h
    rw [List.length_map, List.length_map] at h
    conv => whnf
    exact fin0 (by rw [decide_eq_false (by intro e; injection e with _ e; subst e; exact h rfl)]) trivial
  rw [Bool.not_eq_false'] at h
  have h := of_decide_eq_true h
  rw [List.length_map, List.length_map] at h
  have hl : a.length = b.length := by dsimp only at h; omega
  conv => whnf
  refine loop_of hP [0, 1, 2, 3, 4, 5, 19, 24, 37] [] [2, 3, 5] [66, 67] [] (fun n st => ∃ k : Nat, n = a.length - k ∧ k ≤ a.length ∧ (∀ j (h1 : j < a.length) (h2 : j < b.length), j < k → a[j] = b[j]) ∧ st = ⟨[(2, .ptr 66 0 0), (3, .ptr 67 0 0), (5, .int .i64 k)], [(66, .box 0 [.str na, .sl 3 (valV a)]), (67, .box 0 [.str nb, .sl 3 (valV b)])]⟩) a.length ?_ ?_
  · conv => whnf
    exact ⟨0, rfl, Nat.zero_le _, fun j _ _ h => by omega, rfl⟩
  · rintro n st ⟨k, rfl, hk, hn, rfl⟩
    conv => whnf
    refine branch_of (fun h => ?_) (fun h => ?_)
    · have h := of_decide_eq_true h
      rw [List.length_map] at h
      have hk' : k < a.length := by omega
      have hk2 : k < b.length := by omega
      conv => whnf
      refine ⟨Val.c a[k], idxM hk' rfl, ?_⟩
      conv => whnf
      refine ⟨Val.c b[k], idxM hk2 rfl, ?_⟩
      conv => whnf
      refine ⟨_, (eqVal a[k] b[k]).2, ?_⟩
      conv => whnf
      refine ⟨by kernel_rfl, ?_⟩
      conv => whnf
      refine branch_of (fun h2 => ?_) (fun h2 => ?_)
      · rw [Bool.not_eq_true'] at h2
        have h2 := of_decide_eq_false h2
        conv => whnf
        exact fin0 (by rw [decide_eq_false (by intro e; injection e with _ e; subst e; exact h2 rfl)]) trivial
      · rw [Bool.not_eq_false'] at h2
        have h2 := of_decide_eq_true h2
        conv => whnf
        refine ⟨a.length - (k + 1), by omega, k + 1, rfl, by omega, fun j h1 h3 hj => ?_, ?_⟩
        · by_cases e : j = k
          · subst e; exact h2
          · exact hn j h1 h3 (by omega)
        · rw [wr (by omega) (by omega)]; rfl
    · have h := of_decide_eq_false h
      rw [List.length_map] at h
      conv => whnf
      exact fin0 (by rw [decide_eq_true (by rw [hnm, list_eq_of hl fun j h1 h2 => hn j h1 h2 (by omega)])]) trivial
theorem keepFacts_good (a b : List Fct) (ha : a.length ≤ 1000000) (hb : ∀ f ∈ a, f.a.length ≤ 1000000) : Good Tryz.prog 20 [.sl 2 (fctV a), .sl 2 (fctV b)] [] [.bool (decide (a = b))] [] := by
  refine good_of hP Tryz.func20 (by kernel_rfl) (lv := [0, 1, 4, 5, 10, 14, 26]) (js := []) ⟨rfl, rfl, rfl, rfl, rfl, rfl, _, rfl, ?_⟩
  conv => whnf
  refine branch_of (fun h => ?_) (fun h => ?_)
  · rw [Bool.not_eq_true'] at h
    have h := of_decide_eq_false h
    rw [List.length_map, List.length_map] at h
    conv => whnf
    exact fin0 (by rw [decide_eq_false (by rintro rfl; exact h rfl)]) trivial
  rw [Bool.not_eq_false'] at h
  have h := of_decide_eq_true h
  rw [List.length_map, List.length_map] at h
  have hl : a.length = b.length := by omega
  conv => whnf
  refine loop_of hP [0, 1, 4, 5, 10, 14, 26] [] [0, 1, 5] [] [] (fun n st => ∃ k : Nat, n = a.length - k ∧ k ≤ a.length ∧ (∀ j (h1 : j < a.length) (h2 : j < b.length), j < k → a[j] = b[j]) ∧ st = ⟨[(0, .sl 2 (fctV a)), (1, .sl 2 (fctV b)), (5, .int .i64 k)], []⟩) a.length ?_ ?_
  · conv => whnf
    exact ⟨0, rfl, Nat.zero_le _, fun j _ _ h => by omega, rfl⟩
  · rintro n st ⟨k, rfl, hk, hn, rfl⟩
    conv => whnf
    refine branch_of (fun h => ?_) (fun h => ?_)
    · have h := of_decide_eq_true h
      rw [List.length_map] at h
      have hk' : k < a.length := by omega
      have hk2 : k < b.length := by omega
      conv => whnf
      refine ⟨Fct.c a[k], idxM hk' rfl, ?_⟩
      conv => whnf
      refine ⟨Fct.c b[k], idxM hk2 rfl, ?_⟩
      conv => whnf
      refine call0 (keepFact_good a[k] b[k] (hb _ (List.getElem_mem hk'))) ?_
      conv => whnf
      refine ⟨by kernel_rfl, ?_⟩
      conv => whnf
      refine branch_of (fun h2 => ?_) (fun h2 => ?_)
      · rw [Bool.not_eq_true'] at h2
        have h2 := of_decide_eq_false h2
        conv => whnf
        exact fin0 (by rw [decide_eq_false (by rintro rfl; exact h2 rfl)]) trivial
      · rw [Bool.not_eq_false'] at h2
        have h2 := of_decide_eq_true h2
        conv => whnf
        refine ⟨a.length - (k + 1), by omega, k + 1, rfl, by omega, fun j h1 h3 hj => ?_, ?_⟩
        · by_cases e : j = k
          · subst e; exact h2
          · exact hn j h1 h3 (by omega)
        · rw [wr (by omega) (by omega)]; rfl
    · have h := of_decide_eq_false h
      rw [List.length_map] at h
      conv => whnf
      exact fin0 (by rw [decide_eq_true (list_eq_of hl fun j h1 h2 => hn j h1 h2 (by omega))]) trivial
theorem heavyF_good (a : Fct) : Good Tryz.prog 62 [.agg a.c] [] [.bool (fctH a)] [] := by
  obtain ⟨na, a⟩ := a
  refine good_of hP Tryz.func62 (by kernel_rfl) (lv := [0, 1, 2, 3, 13, 18, 28]) (js := []) ⟨rfl, rfl, rfl, rfl, rfl, rfl, _, rfl, ?_⟩
  unfold fctH
  dsimp only
  conv => whnf
  refine branch_of (fun h => ?_) (fun h => ?_)
  · have h : 200 < na.length := by have := of_decide_eq_true h; dsimp only at this; omega
    conv => whnf
    exact fin0 (by simp [h]) trivial
  have h1 : ¬ 200 < na.length := by have := of_decide_eq_false h; dsimp only at this; omega
  rw [decide_eq_false h1]
  conv => whnf
  refine branch_of (fun h => ?_) (fun h => ?_)
  · have h := of_decide_eq_true h
    rw [List.length_map] at h
    have h : 20 < a.length := by dsimp only at h; omega
    conv => whnf
    exact fin0 (by simp [h]) trivial
  have h := of_decide_eq_false h
  rw [List.length_map] at h
  have h2 : ¬ 20 < a.length := by dsimp only at h; omega
  rw [decide_eq_false h2]
  conv => whnf
  refine loop_of hP [0, 1, 2, 3, 13, 18, 28] [] [1, 3] [65] [] (fun n st => ∃ k : Nat, n = a.length - k ∧ k ≤ a.length ∧ a.any (fun v => decide (200 < v.s.length)) = (a.drop k).any (fun v => decide (200 < v.s.length)) ∧ st = ⟨[(1, .ptr 65 0 0), (3, .int .i64 k)], [(65, .box 0 [.str na, .sl 3 (valV a)])]⟩) a.length ?_ ?_
  · conv => whnf
    exact ⟨0, rfl, Nat.zero_le _, rfl, rfl⟩
  · rintro n st ⟨k, rfl, hk, he, rfl⟩
    conv => whnf
    refine branch_of (fun h => ?_) (fun h => ?_)
    · have h := of_decide_eq_true h
      rw [List.length_map] at h
      have hk' : k < a.length := by omega
      rw [anyL_step hk'] at he
      conv => whnf
      refine ⟨Val.c a[k], idxM hk' rfl, ?_⟩
      conv => whnf
      refine branch_of (fun h3 => ?_) (fun h3 => ?_)
      · have h3 : 200 < a[k].s.length := by have := of_decide_eq_true h3; omega
        conv => whnf
        exact fin0 (by rw [he]; simp [h3]) trivial
      have h3 : ¬ 200 < a[k].s.length := by have := of_decide_eq_false h3; omega
      rw [decide_eq_false h3] at he
      conv => whnf
      refine ⟨a.length - (k + 1), by omega, k + 1, rfl, by omega, by simpa using he, ?_⟩
      rw [wr (by omega) (by omega)]; rfl
    · have h := of_decide_eq_false h
      rw [List.length_map] at h
      conv => whnf
      exact fin0 (by rw [he, anyL_end (by omega)]; rfl) trivial
theorem twinFact_good (a : Fct) (ha : a.a.length ≤ 1000000) : Good Tryz.prog 63 [.agg a.c] [] [.agg a.c] [] := by
  refine good_of hP Tryz.func63 (by kernel_rfl) (lv := [0, 1, 2, 3]) (js := []) ⟨rfl, rfl, rfl, rfl, rfl, rfl, _, rfl, ?_⟩
  conv => whnf
  refine ⟨⟨⟩, by dsimp only; simp only [List.length_map]; omega, ?_⟩
  conv => whnf
  exact fin0 rfl trivial
theorem twinFacts_good (l : List Fct) (hl : l.length ≤ 1000000) (hb : ∀ f ∈ l, f.a.length ≤ 1000000) : Good Tryz.prog 16 [.sl 2 (fctV l)] [] [.own 0 0] [.arr 0 false 2 (fctV l)] := by
  refine good_of hP Tryz.func16 (by kernel_rfl) (lv := [0, 2, 3, 4, 8]) (js := []) ⟨rfl, rfl, rfl, rfl, rfl, rfl, _, rfl, ?_⟩
  conv => whnf
  refine loop_of hP [0, 2, 3, 4, 8] [] [0, 3, 4] [67] [.slot 3 2] (fun n st => ∃ k : Nat, n = l.length - k ∧ k ≤ l.length ∧ st = ⟨[(0, .sl 2 (fctV l)), (3, .own 67 0), (4, .int .i64 k)], [(67, .arr 0 false 2 (fctV (l.take k)))]⟩) l.length ?_ ?_
  · conv => whnf
    exact ⟨0, rfl, Nat.zero_le _, rfl⟩
  · rintro n st ⟨k, rfl, hk, rfl⟩
    conv => whnf
    refine branch_of (fun h => ?_) (fun h => ?_)
    · have h := of_decide_eq_true h
      rw [List.length_map] at h
      have hk' : k < l.length := by omega
      conv => whnf
      refine ⟨Fct.c l[k], idxM hk' rfl, ?_⟩
      conv => whnf
      refine call0 (twinFact_good l[k] (hb _ (List.getElem_mem hk'))) ?_
      conv => whnf
      refine ⟨⟨⟩, by dsimp only; simp only [List.length_map, List.length_take, List.length_cons, List.length_nil]; omega, ?_⟩
      conv => whnf
      refine ⟨l.length - (k + 1), by omega, k + 1, rfl, by omega, ?_⟩
      rw [wr (by omega) (by omega), show fctV (l.take (k + 1)) = fctV (l.take k) ++ [Fct.c l[k]] from map_snoc _ l hk']
      rfl
    · have h := of_decide_eq_false h
      rw [List.length_map] at h
      have : k = l.length := by omega
      subst this
      rw [List.take_length]
      conv => whnf
      refine ⟨[(67, 0)], rfl, ?_⟩
      conv => whnf
      exact ⟨⟨⟩, rfl, trivial⟩
end Go.PV
namespace Go.PV
open Go Go.Proofs
set_option maxRecDepth 100000
theorem many_good (l : List Fct) : Good Tryz.prog 15 [.sl 2 (fctV l)] [] [.bool (fctsH l)] [] := by
  refine good_of hP Tryz.func15 (by kernel_rfl) (lv := [0, 2, 3, 6, 10, 17]) (js := []) ⟨rfl, rfl, rfl, rfl, rfl, rfl, _, rfl, ?_⟩
  unfold fctsH
  conv => whnf
  refine branch_of (fun h => ?_) (fun h => ?_)
  · have h := of_decide_eq_true h
    rw [List.length_map] at h
    have h : 250 < l.length := by omega
    conv => whnf
    exact fin0 (by simp [h]) trivial
  have h := of_decide_eq_false h
  rw [List.length_map] at h
  have h2 : ¬ 250 < l.length := by omega
  rw [decide_eq_false h2]
  conv => whnf
  refine loop_of hP [0, 2, 3, 6, 10, 17] [] [0, 3] [] [] (fun n st => ∃ k : Nat, n = l.length - k ∧ k ≤ l.length ∧ l.any fctH = (l.drop k).any fctH ∧ st = ⟨[(0, .sl 2 (fctV l)), (3, .int .i64 k)], []⟩) l.length ?_ ?_
  · conv => whnf
    exact ⟨0, rfl, Nat.zero_le _, rfl, rfl⟩
  · rintro n st ⟨k, rfl, hk, he, rfl⟩
    conv => whnf
    refine branch_of (fun h => ?_) (fun h => ?_)
    · have h := of_decide_eq_true h
      rw [List.length_map] at h
      have hk' : k < l.length := by omega
      rw [anyL_step hk'] at he
      conv => whnf
      refine ⟨Fct.c l[k], idxM hk' rfl, ?_⟩
      conv => whnf
      refine call0 (heavyF_good l[k]) ?_
      cases hh : fctH l[k] with
      | true =>
        rw [hh] at he
        conv => whnf
        exact fin0 (by rw [he]; rfl) trivial
      | false =>
        rw [hh] at he
        conv => whnf
        refine ⟨l.length - (k + 1), by omega, k + 1, rfl, by omega, by simpa using he, ?_⟩
        rw [wr (by omega) (by omega)]; rfl
    · have h := of_decide_eq_false h
      rw [List.length_map] at h
      conv => whnf
      exact fin0 (by rw [he, anyL_end (by omega)]; rfl) trivial
theorem tcheck_good (l : List Fct) (hl : l.length ≤ 1000000) (hb : ∀ f ∈ l, fctB f) : Good Tryz.prog 22 [.sl 2 (fctV l)] [] [.int .i64 (traceOk l)] [] := by
  refine good_of hP Tryz.func22 (by kernel_rfl) (lv := [0, 2, 4, 5, 8, 9, 10, 11, 12, 18]) (js := []) ⟨rfl, rfl, rfl, rfl, rfl, rfl, _, rfl, ?_⟩
  unfold traceOk
  conv => whnf
  refine branch_of (fun h => ?_) (fun h => ?_)
  · have h := of_decide_eq_true h
    rw [List.length_map] at h
    conv => whnf
    exact fin0 (by rw [if_pos (by omega)]) trivial
  have h := of_decide_eq_false h
  rw [List.length_map] at h
  rw [if_neg (by omega)]
  conv => whnf
  refine loop_of hP [0, 2, 4, 5, 8, 9, 10, 11, 12, 18] [] [9, 10, 11] [] [] (fun n st => ∃ k : Nat, n = l.length - k ∧ k ≤ l.length ∧ l.all factOk = (l.drop k).all factOk ∧ st = ⟨[(9, .sl 2 (fctV l)), (10, .int .i64 l.length), (11, .int .i64 k)], []⟩) l.length ?_ ?_
  · conv => whnf
    exact ⟨0, rfl, Nat.zero_le _, rfl, by rw [← List.length_map (f := Fct.c)]; rfl⟩
  · rintro n st ⟨k, rfl, hk, he, rfl⟩
    conv => whnf
    refine branch_of (fun h => ?_) (fun h => ?_)
    · have h := of_decide_eq_true h
      have hk' : k < l.length := by omega
      rw [List.drop_eq_getElem_cons hk', List.all_cons] at he
      conv => whnf
      refine ⟨Fct.c l[k], idxM hk' rfl, ?_⟩
      conv => whnf
      refine call0 (fcheck_good l[k] (hb _ (List.getElem_mem hk'))) ?_
      cases hh : factOk l[k] with
      | false =>
        rw [hh] at he
        conv => whnf
        exact fin0 (by rw [he]; rfl) trivial
      | true =>
        rw [hh, Bool.true_and] at he
        conv => whnf
        refine ⟨l.length - (k + 1), by omega, k + 1, rfl, by omega, he, ?_⟩
        rw [wr (by omega) (by omega)]; rfl
    · have h := of_decide_eq_false h
      have hd : l.drop k = [] := List.drop_eq_nil_iff.2 (by omega)
      rw [hd] at he
      conv => whnf
      exact fin0 (by rw [he]; rfl) trivial
def traceE (l : List Fct) : Int := if traceOk l = 0 then (if 20000 < (traceT l).length then 2 else 0) else traceOk l
def traceX (l : List Fct) : Bs := if traceE l = 0 then traceT l else []
theorem traceOk_0 {l : List Fct} (h : traceOk l = 0) : l.length ≤ 200 ∧ l.all factOk = true := by
  unfold traceOk at h
  split at h
  · omega
  · split at h
    · exact ⟨by omega, by assumption⟩
    · omega
theorem ttext_good (l : List Fct) (hl : l.length ≤ 1000000) (hb : ∀ f ∈ l, fctB f) : Good Tryz.prog 17 [.sl 2 (fctV l)] [] [.str (traceX l), .int .i64 (traceE l)] [] := by
  refine good_of hP Tryz.func17 (by kernel_rfl) (lv := [0, 2, 3, 4, 5, 7, 8, 13, 15, 16, 17, 18, 33]) (js := []) ⟨rfl, rfl, rfl, rfl, rfl, rfl, _, rfl, ?_⟩
  unfold traceX traceE
  conv => whnf
  refine call0 (tcheck_good l hl hb) ?_
  by_cases h0 : traceOk l = 0
  · obtain ⟨h1, h2⟩ := traceOk_0 h0
    rw [h0, if_pos rfl]
    conv => whnf
    refine loop_of hP [0, 2, 3, 4, 5, 7, 8, 13, 15, 16, 17, 18, 33] [] [5, 15, 16, 17] [] [] (fun n st => ∃ k : Nat, n = l.length - k ∧ k ≤ l.length ∧ st = ⟨[(5, .str (traceT (l.take k))), (15, .sl 2 (fctV l)), (16, .int .i64 l.length), (17, .int .i64 k)], []⟩) l.length ?_ ?_
    · conv => whnf
      exact ⟨0, rfl, Nat.zero_le _, by rw [← List.length_map (f := Fct.c)]; rfl⟩
    · rintro n st ⟨k, rfl, hk, rfl⟩
      conv => whnf
      refine branch_of (fun h => ?_) (fun h => ?_)
      · have h := of_decide_eq_true h
        have hk' : k < l.length := by omega
        have hok : factOk l[k] = true := List.all_eq_true.1 h2 _ (List.getElem_mem hk')
        have hfl := factT_len hok
        have htl := traceT_len (l := l.take k) (List.all_eq_true.2 fun f hf => List.all_eq_true.1 h2 f (List.mem_of_mem_take hf))
        rw [List.length_take] at htl
        conv => whnf
        refine ⟨Fct.c l[k], idxM hk' rfl, ?_⟩
        conv => whnf
        refine call0 (ftext_good l[k] (hb _ (List.getElem_mem hk'))) ?_
        rw [hok, if_pos rfl]
        conv => whnf
        refine ⟨⟨⟩, by dsimp only; simp only [List.length_cons, List.length_nil]; omega, ?_⟩
        conv => whnf
        refine ⟨⟨⟩, by dsimp only; simp only [List.length_append, List.length_cons, List.length_nil]; omega, ?_⟩
        conv => whnf
        refine ⟨l.length - (k + 1), by omega, k + 1, rfl, by omega, ?_⟩
        rw [wr (by omega) (by omega), show traceT (l.take (k + 1)) = traceT (l.take k) ++ (factT l[k] ++ [46, 10]) from flatMap_snoc' _ l hk']
        rfl
      · have h := of_decide_eq_false h
        have : k = l.length := by omega
        subst this
        rw [List.take_length]
        conv => whnf
        refine branch_of (fun h => ?_) (fun h => ?_)
        · have h := of_decide_eq_true h
          rw [if_pos (show 20000 < (traceT l).length by omega), if_neg (by decide)]
          conv => whnf
          exact fin0 rfl trivial
        · have h := of_decide_eq_false h
          rw [if_neg (show ¬ 20000 < (traceT l).length by omega), if_pos rfl]
          conv => whnf
          exact fin0 rfl trivial
  · rw [if_neg h0, if_neg h0]
    conv => whnf
    refine branch_of (fun h => ?_) (fun h => ?_)
    · conv => whnf
      exact fin0 rfl trivial
    · exact absurd (of_decide_eq_true (by simpa using h)) h0
theorem mvars_good (a : Atm) (h : atmB a) : Good Tryz.prog 129 [.agg a.c] [] [.sl 1 (strV (varsS a.a))] [] := by
  obtain ⟨nm, a⟩ := a
  obtain ⟨h1, h2, h3⟩ := h
  dsimp only at h1 h2 h3
  refine good_of hP Tryz.func129 (by kernel_rfl) (lv := [0, 1, 2, 3, 5, 7, 8, 9, 10, 22]) (js := []) ⟨rfl, rfl, rfl, rfl, rfl, rfl, _, rfl, ?_⟩
  conv => whnf
  refine loop_of hP [0, 1, 2, 3, 5, 7, 8, 9, 10, 22] [] [3, 7, 8, 9] [67] [.slot 3 1] (fun n st => ∃ (k : Nat) (sh : Bool), n = a.length - k ∧ k ≤ a.length ∧ ((a.take k).foldl varGo []).length ≤ k ∧ st = ⟨[(3, .own 67 0), (7, .sl 4 (trmV a)), (8, .int .i64 a.length), (9, .int .i64 k)], [(67, .arr 0 sh 1 (strV ((a.take k).foldl varGo [])))]⟩) a.length ?_ ?_
  · conv => whnf
    exact ⟨0, false, rfl, Nat.zero_le _, Nat.le_refl _, by rw [← List.length_map (f := Trm.c)]; rfl⟩
  · rintro n st ⟨k, sh, rfl, hk, hkl, rfl⟩
    conv => whnf
    refine branch_of (fun h => ?_) (fun h => ?_)
    · have h := of_decide_eq_true h
      have hk' : k < a.length := by omega
      have hw : IntKind.i64.wrap ((k : Int) + 1) = (k + 1 : Nat) := by rw [wr (by omega) (by omega)]; rfl
      have hsn := foldl_snoc varGo [] a hk'
      generalize hA : (a.take k).foldl varGo [] = A at *
      have ix := idxM (f := Trm.c) hk' (x := (k : Int)) rfl
      conv => whnf
      generalize a[k] = t at *
      refine ⟨Trm.c t, ix, ?_⟩
      conv => whnf
      refine branch_of (fun h4 => ?_) (fun h4 => ?_)
      · rw [Bool.not_eq_true'] at h4
        have h4 : ¬ t.v = [] := of_decide_eq_false h4
        conv => whnf
        refine call0 (contains_good A t.v (by omega)) ?_
        by_cases hm : t.v ∈ A
        · rw [decide_eq_true hm]
          have e : varGo A t = A := by unfold varGo; rw [if_neg (fun h => h.2 hm)]
          rw [e] at hsn
          conv => whnf
          refine ⟨a.length - (k + 1), by omega, k + 1, true, rfl, by omega, by rw [hsn]; omega, ?_⟩
          rw [hw, hsn]
        · rw [decide_eq_false hm]
          have e : varGo A t = A ++ [t.v] := by unfold varGo; rw [if_pos ⟨h4, hm⟩]
          rw [e] at hsn
          conv => whnf
          refine ⟨⟨⟩, by dsimp only; simp only [List.length_map, List.length_cons, List.length_nil]; omega, ?_⟩
          conv => whnf
          refine ⟨a.length - (k + 1), by omega, k + 1, true, rfl, by omega, by rw [hsn]; simp; omega, ?_⟩
          rw [hw, hsn, show strV (A ++ [t.v]) = strV A ++ [[.str t.v]] from List.map_append]
      · rw [Bool.not_eq_false'] at h4
        have h4 : t.v = [] := of_decide_eq_true h4
        have e : varGo A t = A := by unfold varGo; rw [if_neg (fun h => h.1 h4)]
        rw [e] at hsn
        conv => whnf
        refine ⟨a.length - (k + 1), by omega, k + 1, sh, rfl, by omega, by rw [hsn]; omega, ?_⟩
        rw [hw, hsn]
    · have h := of_decide_eq_false h
      have : k = a.length := by omega
      subst this
      rw [List.take_length]
      conv => whnf
      exact fin0 rfl trivial
theorem scheck_nil : Good Tryz.prog 194 [.sl 4 []] [] [.int .i64 0] [] := by
  refine good_of hP Tryz.func194 (by kernel_rfl) (lv := [0, 2, 3, 4, 7, 8, 9, 10, 11, 32]) (js := []) ⟨rfl, rfl, rfl, rfl, rfl, rfl, _, rfl, ?_⟩
  conv => whnf
  refine loop_of hP [0, 2, 3, 4, 7, 8, 9, 10, 11, 32] [] [9, 10] [] [] (fun _ st => st = ⟨[(9, .int .i64 0), (10, .int .i64 0)], []⟩) 0 ?_ ?_
  · conv => whnf
    rfl
  · rintro n st rfl
    conv => whnf
    exact fin0 rfl trivial
theorem ground_good (a : Atm) (h : atmB a) (hk : atomOk a = true) (hf : free a = true) : Good Tryz.prog 130 [.agg a.c, .sl 4 []] [] [.agg a.gr.c, .int .i64 0] [] := by
  have hl : a.a.length ≤ 5 := by unfold atomOk at hk; simp at hk; exact hk.1.2
  refine good_of hP Tryz.func130 (by kernel_rfl) (lv := [0, 1, 2, 4, 5, 6, 7, 9, 10, 11, 15, 19, 26, 27, 28, 29, 36, 45]) (js := []) ⟨rfl, rfl, rfl, rfl, rfl, rfl, _, rfl, ?_⟩
  conv => whnf
  refine call0 (mcheck_good a h) ?_
  rw [hk, if_pos rfl]
  conv => whnf
  refine call0 (scheck_nil) ?_
  conv => whnf
  refine loop_of hP [0, 1, 2, 4, 5, 6, 7, 9, 10, 11, 15, 19, 26, 27, 28, 29, 36, 45] [] [4, 7, 26, 27, 28] [68, 71, 104545] [.cell 71 1 3] (fun n st => ∃ k : Nat, n = a.a.length - k ∧ k ≤ a.a.length ∧ st = ⟨[(4, .ptr 68 0 0), (7, .ptr 71 0 0), (26, .sl 4 (trmV a.a)), (27, .int .i64 a.a.length), (28, .int .i64 k)], [(68, .box 0 [.str [], .nil]), (71, .box 0 [.str a.n, .own 104545 0]), (104545, .arr 0 false 3 (valV ((a.a.take k).map Trm.x)))]⟩) a.a.length ?_ ?_
  · conv => whnf
    exact ⟨0, rfl, Nat.zero_le _, by rw [← List.length_map (f := Trm.c)]; rfl⟩
  · rintro n st ⟨k, rfl, hkl, rfl⟩
    conv => whnf
    refine branch_of (fun h1 => ?_) (fun h1 => ?_)
    · have h1 := of_decide_eq_true h1
      have hk' : k < a.a.length := by omega
      have hv : a.a[k].v = [] := by
        have := List.all_eq_true.1 hf _ (List.getElem_mem hk')
        simpa using this
      conv => whnf
      refine ⟨Trm.c a.a[k], idxM hk' rfl, ?_⟩
      conv => whnf
      refine branch_of (fun h2 => ?_) (fun h2 => ?_)
      · rw [Bool.not_eq_true'] at h2
        exact absurd hv (of_decide_eq_false h2)
      conv => whnf
      refine ⟨⟨⟩, by dsimp only; simp only [List.length_map, List.length_take, List.length_cons, List.length_nil]; omega, ?_⟩
      conv => whnf
      refine ⟨a.a.length - (k + 1), by omega, k + 1, rfl, by omega, ?_⟩
      rw [wr (by omega) (by omega), map_snoc _ a.a hk', show valV ((a.a.take k).map Trm.x ++ [a.a[k].x]) = valV ((a.a.take k).map Trm.x) ++ [Val.c a.a[k].x] from List.map_append]
      rfl
    · have h1 := of_decide_eq_false h1
      have : k = a.a.length := by omega
      subst this
      rw [List.take_length]
      conv => whnf
      exact fin0 rfl trivial
theorem event_good (l : List Tok) (i : Nat) (hb : tokB l) (hi : i ≤ l.length) : Good Tryz.prog 65 [.sl 4 (toksV l), .int .i64 i] [] [.agg (eventS l i).1.c, .int .i64 (eventS l i).2.1, .int .i64 (eventS l i).2.2] [] := by
  refine good_of hP Tryz.func65 (by kernel_rfl) (lv := [0, 1, 4, 5, 6, 7, 16, 23, 45]) (js := []) ⟨rfl, rfl, rfl, rfl, rfl, rfl, _, rfl, ?_⟩
  obtain ⟨p1, p2, p3⟩ := readA_place hi
  unfold eventS
  dsimp only
  conv => whnf
  refine call0 (readA_good l i hb hi) ?_
  rcases p3 with h0 | h0
  · obtain ⟨k1, k2, k3⟩ := readA_ok h0
    rw [h0, if_neg (by omega)]
    obtain ⟨q1, q2, q3⟩ := atomOk_len k1
    generalize readA l i = x at *
    have hab : atmB x.1 := ⟨by omega, by omega, fun t ht => by have := q3 t ht; exact ⟨by omega, by omega⟩⟩
    conv => whnf
    refine call0 (mvars_good x.1 hab) ?_
    have hvf := vars_free x.1
    have hvl : ((strV (varsS x.1.a)).length : Int) = (varsS x.1.a).length := by rw [List.length_map]
    cases hf : free x.1 with
    | false =>
      rw [hf] at hvf
      have hvf := of_decide_eq_true hvf
      rw [if_pos rfl]
      conv => whnf
      refine branch_of (fun h => ?_) (fun h => ?_)
      · conv => whnf
        exact fin0 rfl trivial
      · have h := of_decide_eq_false h; omega
    | true =>
      rw [hf] at hvf
      have hvf := of_decide_eq_false hvf
      rw [if_neg (by simp)]
      conv => whnf
      refine branch_of (fun h => ?_) (fun h => ?_)
      · have h := of_decide_eq_true h; omega
      conv => whnf
      refine branch_of (fun h2 => ?_) (fun h2 => ?_)
      · have h2 := of_decide_eq_true h2
        rw [List.length_map] at h2
        rw [List.getElem?_eq_none (by omega)]
        conv => whnf
        exact fin0 rfl trivial
      have h2 := of_decide_eq_false h2
      rw [List.length_map] at h2
      have hn : x.2.1 < l.length := by omega
      rw [List.getElem?_eq_getElem hn]
      dsimp only
      conv => whnf
      refine ⟨Tok.c l[x.2.1], idxM hn rfl, ?_⟩
      conv => whnf
      refine branch_of (fun h3 => ?_) (fun h3 => ?_)
      · rw [Bool.not_eq_true'] at h3
        have h3 := of_decide_eq_false h3
        rw [if_neg (fun h => h3 h.1)]
        conv => whnf
        exact fin0 rfl trivial
      rw [Bool.not_eq_false'] at h3
      have h3 := of_decide_eq_true h3
      conv => whnf
      refine ⟨Tok.c l[x.2.1], idxM hn rfl, ?_⟩
      conv => whnf
      refine branch_of (fun h4 => ?_) (fun h4 => ?_)
      · rw [Bool.not_eq_true'] at h4
        have h4 := of_decide_eq_false h4
        rw [if_neg (fun h => h4 h.2)]
        conv => whnf
        exact fin0 rfl trivial
      rw [Bool.not_eq_false'] at h4
      have h4 := of_decide_eq_true h4
      rw [if_pos ⟨h3, h4⟩]
      conv => whnf
      refine call0 (ground_good x.1 hab k1 hf) ?_
      conv => whnf
      refine fin0 ?_ trivial
      have := hb.1
      rw [wr (by omega) (by omega)]; rfl
  · rw [h0, if_pos (by omega)]
    conv => whnf
    exact fin0 rfl trivial
theorem place_good' (l : List Tok) (i : Nat) (hl : l.length ≤ 1000000) (hp : ∀ t ∈ l, 0 ≤ t.p.2 ∧ t.p.2 ≤ 1000000) : Good Tryz.prog 66 [.sl 4 (toksV l), .int .i64 i] [] [.agg [.int .i64 (placeT l i).1, .int .i64 (placeT l i).2]] [] := by
  refine good_of hP Tryz.func66 (by kernel_rfl) (lv := [0, 1, 4, 5, 9, 17]) (js := []) ⟨rfl, rfl, rfl, rfl, rfl, rfl, _, rfl, ?_⟩
  unfold placeT
  conv => whnf
  refine branch_of (fun h => ?_) (fun h => ?_)
  · have h := of_decide_eq_true h
    rw [List.length_map] at h
    have hi : i < l.length := by omega
    rw [List.getElem?_eq_getElem hi]
    conv => whnf
    refine ⟨Tok.c l[i], idxM hi rfl, ?_⟩
    conv => whnf
    exact fin0 rfl trivial
  · have h := of_decide_eq_false h
    rw [List.length_map] at h
    rw [List.getElem?_eq_none (by omega)]
    conv => whnf
    refine branch_of (fun h2 => ?_) (fun h2 => ?_)
    · have h2 := of_decide_eq_true h2
      rw [List.length_map] at h2
      have : l = [] := List.eq_nil_of_length_eq_zero (by omega)
      subst this
      conv => whnf
      exact fin0 rfl trivial
    · have h2 := of_decide_eq_false h2
      rw [List.length_map] at h2
      have hne : l ≠ [] := fun e => by subst e; exact h2 rfl
      have hpos : 0 < l.length := List.length_pos_iff.2 hne
      have hk : l.length - 1 < l.length := by omega
      rw [List.getLast?_eq_getElem?, List.getElem?_eq_getElem hk]
      have hpp := hp _ (List.getElem_mem hk)
      conv => whnf
      refine ⟨Tok.c l[l.length - 1], idxM hk (by rw [List.length_map, wr (by omega) (by omega)]; omega), ?_⟩
      conv => whnf
      refine fin0 ?_ trivial
      rw [wr (by omega) (by omega)]
end Go.PV
namespace Go.PV
open Go Go.Proofs
set_option maxRecDepth 100000
theorem traceAt_succ (l : List Tok) : ∀ (n i : Nat), traceAt l (n + 1) i = (eventS l (traceAt l n i)).2.1
  | 0, i => rfl
  | n + 1, i => by rw [traceAt, traceAt_succ l n]; rfl
theorem toksR_p (s : Bs) (hs : s.length ≤ 20000) : ∀ t ∈ toksR s, 0 ≤ t.p.2 ∧ t.p.2 ≤ 1000000 := by
  have go : ∀ (l : List Tok) (lo : Nat), Chain s lo l → ∀ t ∈ l, 0 ≤ t.p.2 ∧ t.p.2 ≤ 1000000 := by
    intro l
    induction l with
    | nil => intro lo _ t ht; cases ht
    | cons u l ih =>
      rintro lo ⟨i, h1, h2, h3, h4, h5, h6⟩ t ht
      rcases List.mem_cons.1 ht with rfl | ht
      · have := posS_le s i (by omega)
        rw [h4]; omega
      · exact ih _ h6 t ht
  exact go _ 0 (chain_R s)
theorem parseT_good (s : Bs) (hs : s.length ≤ 20000) : Good Tryz.prog 18 [.str s] [] [.sl 2 (fctV (parseT s).1), .agg [.int .i64 (parseT s).2.1.1, .int .i64 (parseT s).2.1.2], .int .i64 (parseT s).2.2] [] := by
  refine good_of hP Tryz.func18 (by kernel_rfl) (lv := [0, 2, 3, 4, 5, 6, 7, 8, 9, 10, 18, 24, 33, 44, 48]) (js := []) ⟨rfl, rfl, rfl, rfl, rfl, rfl, _, rfl, ?_⟩
  have hb := tokB_R s hs
  have hpp := toksR_p s hs
  unfold parseT
  conv => whnf
  refine call0 (tokens_good s hs) ?_
  by_cases he : errR s = 0
  · have hpz : posR s = (0, 0) := by
      unfold errR at he; unfold posR
      cases h : (toksS s).2 with
      | none => rfl
      | some p => rw [h] at he; simp at he
    rw [he, if_pos rfl, hpz]
    have hlen : (toksR s).length ≤ 20000 := by
      rcases chain_len (chain_R s) with h | h
      · omega
      · rw [h]; exact Nat.zero_le _
    dsimp only
    generalize toksR s = l at *
    generalize hG : traceGo l l.length 0 = G
    conv => whnf
    refine loop_of hP [0, 2, 3, 4, 5, 6, 7, 8, 9, 10, 18, 24, 33, 44, 48] [] [2, 3, 5, 6, 7] [66, 67] [.slot 2 2] (fun n st => ∃ (i f : Nat) (acc : List Fct), n = l.length - i ∧ i ≤ l.length ∧ l.length ≤ f + i ∧ acc.length ≤ i ∧ G = (acc ++ (traceGo l f i).1, (traceGo l f i).2) ∧ i = traceAt l acc.length 0 ∧ (200 < acc.length → traceAt l 200 0 < l.length) ∧
      st = ⟨[(2, .own 66 0), (3, .ptr 67 0 0), (5, .sl 4 (toksV l)), (6, .int .i64 (if 200 < acc.length then (traceAt l 200 0 : Int) else -1)), (7, .int .i64 i)], [(66, .arr 0 false 2 (fctV acc)), (67, .box 0 [.int .i64 0, .int .i64 0])]⟩) l.length ?_ ?_
    · conv => whnf
      exact ⟨0, l.length, [], rfl, Nat.zero_le _, Nat.le_refl _, Nat.le_refl _, hG.symm, rfl, fun h => absurd h (by simp), rfl⟩
    · rintro n st ⟨i, f, acc, rfl, hi, hf, hacc, hg, hat, hov, rfl⟩
      conv => whnf
      refine branch_of (fun h => ?_) (fun h => ?_)
      · have h := of_decide_eq_true h
        rw [List.length_map] at h
        have hi' : i < l.length := by omega
        obtain ⟨f, rfl⟩ : ∃ f', f = f' + 1 := ⟨f - 1, by omega⟩
        rw [traceGo, if_pos hi'] at hg
        dsimp only at hg
        have hsucc := traceAt_succ l acc.length 0
        rw [← hat] at hsucc
        obtain ⟨e1, e2, e3⟩ := eventS_place hi
        conv => whnf
        refine call0 (event_good l i hb hi) ?_
        rcases e3 with h0 | h0
        · obtain ⟨k1, k2, k3⟩ := eventS_ok h0
          rw [h0, if_pos rfl] at hg
          rw [h0]
          generalize eventS l i = x at *
          have hl1 : (acc ++ [x.1]).length = acc.length + 1 := by simp
          have hnext : G = ((acc ++ [x.1]) ++ (traceGo l f x.2.1).1, (traceGo l f x.2.1).2) := by rw [hg]; simp
          conv => whnf
          refine ⟨⟨⟩, by dsimp only; simp only [List.length_map, List.length_cons, List.length_nil]; omega, ?_⟩
          conv => whnf
          refine branch_of (fun h2 => ?_) (fun h2 => ?_)
          · have h2 := of_decide_eq_true h2
            rw [List.length_append, List.length_map, List.length_cons, List.length_nil] at h2
            conv => whnf
            refine ⟨l.length - x.2.1, by omega, x.2.1, f, acc ++ [x.1], rfl, k3, by omega, by omega, hnext, by rw [hl1, hsucc], fun _ => ?_, ?_⟩
            · have hal : acc.length = 200 := by omega
              rw [← hal, ← hat]; exact hi'
            have hal : acc.length = 200 := by omega
            rw [hl1, if_pos (by omega), ← hal, ← hat, show fctV (acc ++ [x.1]) = fctV acc ++ [Fct.c x.1] from List.map_append]
          · have h2 := of_decide_eq_false h2
            rw [List.length_append, List.length_map, List.length_cons, List.length_nil] at h2
            conv => whnf
            refine ⟨l.length - x.2.1, by omega, x.2.1, f, acc ++ [x.1], rfl, k3, by omega, by omega, hnext, by rw [hl1, hsucc], fun hq => hov (by omega), ?_⟩
            have e4 : (if 200 < (acc ++ [x.1]).length then (traceAt l 200 0 : Int) else -1) = if 200 < acc.length then (traceAt l 200 0 : Int) else -1 := by
              rw [hl1]
              by_cases hq : 200 < acc.length
              · rw [if_pos hq, if_pos (by omega)]
              · rw [if_neg hq, if_neg (by omega)]
            rw [e4, show fctV (acc ++ [x.1]) = fctV acc ++ [Fct.c x.1] from List.map_append]
        · rw [h0, if_neg (by omega), List.append_nil] at hg
          rw [h0, hg]
          generalize eventS l i = x at *
          conv => whnf
          refine call0 (place_good' l x.2.1 hb.1 hpp) ?_
          conv => whnf
          exact fin0 rfl trivial
      · have h := of_decide_eq_false h
        rw [List.length_map] at h
        have hgo : traceGo l f i = ([], none) := by
          cases f with
          | zero => rfl
          | succ f => rw [traceGo, if_neg (by omega)]
        rw [hgo, List.append_nil] at hg
        rw [hg]
        dsimp only
        by_cases hq : 200 < acc.length
        · rw [if_pos hq, if_pos hq]
          have hlt := hov hq
          generalize traceAt l 200 0 = z at *
          conv => whnf
          refine ⟨Tok.c l[z], idxM hlt rfl, ?_⟩
          conv => whnf
          refine ⟨by kernel_rfl, ?_⟩
          conv => whnf
          refine fin0 ?_ trivial
          unfold placeT
          rw [List.getElem?_eq_getElem hlt]
          rfl
        · rw [if_neg hq, if_neg hq]
          conv => whnf
          exact fin0 rfl trivial
  · rw [if_neg he]
    conv => whnf
    refine branch_of (fun h => ?_) (fun h => ?_)
    · conv => whnf
      refine ⟨by kernel_rfl, ?_⟩
      conv => whnf
      rcases errR_cases s with h1 | ⟨_, h1, _⟩
      · exact absurd h1 he
      · exact fin0 rfl trivial
    · exact absurd (of_decide_eq_true (by simpa using h)) he
end Go.PV
namespace Go.PV
open Go Go.Proofs
set_option maxRecDepth 100000
theorem is_dot (l : List Tok) (j : Nat) : (⟨l, j, true⟩ : Rf).is 5 [46] = match l[j]? with
    | some t => decide (t.k = 5 ∧ t.t = [46])
    | none => false := by
  have h : Sim (rd0 l j) ⟨l, j, true⟩ := ⟨rfl, rfl, rfl, rfl⟩
  have e := h.see (k := 5) (s := [46]) (by decide +kernel)
  have e : (⟨l, j, true⟩ : Rf).is 5 [46] = (rd0 l j).see 5 [46] := by rw [e]; rfl
  rw [e]
  unfold Rd.see Rd.cur
  show (true && decide ((l[j]?).map kt = some (5, [46]))) = _
  rw [Bool.true_and]
  cases l[j]? with
  | none => rfl
  | some t => simp [kt]
theorem rparse_good (s : Bs) (hs : s.length ≤ 20000) : Good Tryz.prog 19 [.str s] [] [.sl 2 (fctV (parseT s).1), .agg [.int .i64 (parseT s).2.1.1, .int .i64 (parseT s).2.1.2], .int .i64 (parseT s).2.2] [] := by
  refine good_of hP Tryz.func19 (by kernel_rfl) (lv := [0, 2, 3, 4, 5, 6, 7, 8, 9, 10, 11, 12, 13, 14, 15, 16, 25, 31, 41, 48, 58, 68, 71, 84]) (js := []) ⟨rfl, rfl, rfl, rfl, rfl, rfl, _, rfl, ?_⟩
  have hb := tokB_R s hs
  have hpp := toksR_p s hs
  unfold parseT
  conv => whnf
  refine call0 (rlex_good s hs) ?_
  by_cases he : errR s = 0
  · have hpz : posR s = (0, 0) := by
      unfold errR at he; unfold posR
      cases h : (toksS s).2 with
      | none => rfl
      | some p => rw [h] at he; simp at he
    rw [he, if_pos rfl, hpz]
    have hlen : (toksR s).length ≤ 20000 := by
      rcases chain_len (chain_R s) with h | h
      · omega
      · rw [h]; exact Nat.zero_le _
    dsimp only
    generalize toksR s = l at *
    generalize hG : traceGo l l.length 0 = G
    conv => whnf
    refine loop_of hP [0, 2, 3, 4, 5, 6, 7, 8, 9, 10, 11, 12, 13, 14, 15, 16, 25, 31, 41, 48, 58, 68, 71, 84] [] [2, 3, 4, 5, 8, 9, 10] [67, 72] [.slot 8 2] (fun n st => ∃ (i f : Nat) (acc : List Fct), n = l.length - i ∧ i ≤ l.length ∧ l.length ≤ f + i ∧ acc.length ≤ i ∧ G = (acc ++ (traceGo l f i).1, (traceGo l f i).2) ∧ i = traceAt l acc.length 0 ∧ (200 < acc.length → traceAt l 200 0 < l.length) ∧
      st = ⟨[(2, .nil), (3, .ptr 67 0 0), (4, .int .i64 0), (5, .sl 4 (toksV l)), (8, .own 72 0), (9, .int .i64 (if 200 < acc.length then (traceAt l 200 0 : Int) else -1)), (10, .int .i64 i)], [(67, .box 0 [.int .i64 0, .int .i64 0]), (72, .arr 0 false 2 (fctV (acc.take 200)))]⟩) l.length ?_ ?_
    · conv => whnf
      exact ⟨0, l.length, [], rfl, Nat.zero_le _, Nat.le_refl _, Nat.le_refl _, hG.symm, rfl, fun h => absurd h (by simp), rfl⟩
    · rintro n st ⟨i, f, acc, rfl, hi, hf, hacc, hg, hat, hov, rfl⟩
      conv => whnf
      refine branch_of (fun h => ?_) (fun h => ?_)
      · have h := of_decide_eq_true h
        rw [List.length_map] at h
        have hi' : i < l.length := by omega
        obtain ⟨f, rfl⟩ : ∃ f', f = f' + 1 := ⟨f - 1, by omega⟩
        rw [traceGo, if_pos hi'] at hg
        dsimp only at hg
        have hsucc := traceAt_succ l acc.length 0
        rw [← hat] at hsucc
        obtain ⟨p1, p2, p3⟩ := readA_place hi
        obtain ⟨_, ep, _⟩ := eventS_place hi
        have hev : eventS l i = (let x := readA l i
          if x.2.2 ≠ 0 then (zeroF, x.2.1, 7)
          else if free x.1 = false then (zeroF, i, 7)
          else if (⟨l, x.2.1, true⟩ : Rf).is 5 [46] then (x.1.gr, x.2.1 + 1, 0) else (zeroF, x.2.1, 7)) := by
          unfold eventS
          dsimp only
          rw [is_dot]
          cases l[(readA l i).2.1]? with
          | none => rfl
          | some t => simp
        dsimp only at hev
        conv => whnf
        refine call0 (qreadA_good l i hb hi) ?_
        rcases p3 with h0 | h0
        · obtain ⟨k1, k2, k3⟩ := readA_ok h0
          rw [h0, if_neg (by omega)] at hev
          rw [h0]
          obtain ⟨q1, q2, q3⟩ := atomOk_len k1
          generalize readA l i = x at *
          conv => whnf
          refine call0 (refVars_good x.1 (by omega)) ?_
          have hvf := vars_free x.1
          cases hfr : free x.1 with
          | false =>
            rw [hfr] at hvf hev
            have hvf := of_decide_eq_true hvf
            rw [if_pos rfl] at hev
            rw [hev, if_neg (by dsimp only; omega), List.append_nil] at hg
            rw [hg]
            conv => whnf
            refine branch_of (fun h2 => ?_) (fun h2 => ?_)
            · conv => whnf
              refine call0 (qplace_good l i hb.1 hpp) ?_
              conv => whnf
              exact fin0 rfl trivial
            · have h2 := of_decide_eq_false h2
              rw [List.length_map] at h2; omega
          | true =>
            rw [hfr] at hvf hev
            have hvf := of_decide_eq_false hvf
            rw [if_neg (by simp)] at hev
            conv => whnf
            refine branch_of (fun h2 => ?_) (fun h2 => ?_)
            · have h2 := of_decide_eq_true h2
              rw [List.length_map] at h2; omega
            conv => whnf
            refine callN [(79, 0)] (qtake_good ⟨l, x.2.1, true⟩ 5 [46] hb) ?_ 
            conv => whnf
            refine ⟨⟨⟩, rfl, ?_⟩
            unfold Rf.take
            dsimp only
            rw [Bool.true_and]
            cases hdot : (⟨l, x.2.1, true⟩ : Rf).is 5 [46] with
            | false =>
              rw [hdot, if_neg (by simp)] at hev
              rw [hev, if_neg (by dsimp only; omega), List.append_nil] at hg
              rw [hg, if_neg (by simp)]
              conv => whnf
              refine call0 (qplace_good l x.2.1 hb.1 hpp) ?_
              conv => whnf
              exact fin0 rfl trivial
            | true =>
              rw [hdot, if_pos rfl] at hev
              rw [hev] at hsucc ep
              rw [hev, if_pos rfl] at hg
              rw [if_pos rfl]
              dsimp only at hsucc ep hg
              have hl1 : (acc ++ [x.1.gr]).length = acc.length + 1 := by simp
              have hnext : G = ((acc ++ [x.1.gr]) ++ (traceGo l f (x.2.1 + 1)).1, (traceGo l f (x.2.1 + 1)).2) := by rw [hg]; simp
              conv => whnf
              rw [List.length_map, List.length_take]
              rcases Nat.lt_trichotomy acc.length 200 with hc | hc | hc
              · have e1 : decide (((min 200 acc.length : Nat) : Int) = 200) = false := decide_eq_false (by omega)
                rw [e1, if_neg (by omega), List.take_of_length_le (by omega)]
                conv => whnf
                refine call0 (refGround_good x.1 (by omega) hfr) ?_
                conv => whnf
                refine ⟨⟨⟩, by dsimp only; simp only [List.length_map, List.length_cons, List.length_nil]; omega, ?_⟩
                conv => whnf
                refine ⟨l.length - (x.2.1 + 1), by omega, x.2.1 + 1, f, acc ++ [x.1.gr], rfl, ep, by omega, by omega, hnext, by rw [hl1, hsucc], fun hq => hov (by omega), ?_⟩
                rw [hl1, if_neg (by omega), List.take_of_length_le (by omega), show fctV (acc ++ [x.1.gr]) = fctV acc ++ [Fct.c x.1.gr] from List.map_append]
                rfl
              · have e1 : decide (((min 200 acc.length : Nat) : Int) = 200) = true := decide_eq_true (by omega)
                rw [e1, if_neg (by omega)]
                conv => whnf
                refine ⟨l.length - (x.2.1 + 1), by omega, x.2.1 + 1, f, acc ++ [x.1.gr], rfl, ep, by omega, by omega, hnext, by rw [hl1, hsucc], fun _ => by rw [← hc, ← hat]; exact hi', ?_⟩
                rw [hl1, if_pos (by omega), ← hc, ← hat, List.take_left, List.take_length]
                rfl
              · have e1 : decide (((min 200 acc.length : Nat) : Int) = 200) = true := decide_eq_true (by omega)
                rw [e1, if_pos hc]
                conv => whnf
                refine ⟨l.length - (x.2.1 + 1), by omega, x.2.1 + 1, f, acc ++ [x.1.gr], rfl, ep, by omega, by omega, hnext, by rw [hl1, hsucc], fun _ => hov hc, ?_⟩
                rw [hl1, if_pos (by omega), List.take_append_of_le_length (by omega)]
                rfl
        · rw [h0, if_pos (by omega)] at hev
          rw [hev, if_neg (by dsimp only; omega), List.append_nil] at hg
          rw [h0, hg]
          generalize readA l i = x at *
          conv => whnf
          refine call0 (qplace_good l x.2.1 hb.1 hpp) ?_
          conv => whnf
          exact fin0 rfl trivial
      · have h := of_decide_eq_false h
        rw [List.length_map] at h
        have hgo : traceGo l f i = ([], none) := by
          cases f with
          | zero => rfl
          | succ f => rw [traceGo, if_neg (by omega)]
        rw [hgo, List.append_nil] at hg
        rw [hg]
        dsimp only
        by_cases hq : 200 < acc.length
        · rw [if_pos hq, if_pos hq]
          have hlt := hov hq
          generalize traceAt l 200 0 = z at *
          conv => whnf
          refine call0 (qplace_good l z hb.1 hpp) ?_
          conv => whnf
          exact fin0 rfl trivial
        · rw [if_neg hq, if_neg hq, List.take_of_length_le (by omega)]
          conv => whnf
          exact fin0 rfl trivial
  · rw [if_neg he]
    conv => whnf
    refine branch_of (fun h => ?_) (fun h => ?_)
    · conv => whnf
      refine ⟨by kernel_rfl, ?_⟩
      conv => whnf
      rcases errR_cases s with h1 | ⟨_, h1, _⟩
      · exact absurd h1 he
      · exact fin0 rfl trivial
    · exact absurd (of_decide_eq_true (by simpa using h)) he
end Go.PV
