/- Part of the proof. -/
import Derived.Test.YtfdopmapaaagoaaGreatDoorM7
import Derived.ChangeArms
import Derived.DataElems
import Derived.DataReads
import Derived.SizedLaws
import Derived.ChangeSlices
import Derived.WideShapes
import Derived.ChangeShapes
import Derived.JoinedOf
import Derived.SevenTiedAt
import Derived.Test.YtfdopmapaaagoaaGreatDoorRows
import Derived.LaidMore
import Derived.Stop.LaidErr
import Derived.Lib.LaidTab
import Derived.MakeChecks
import Derived.LaidLaws
set_option linter.unusedVariables false
set_option linter.unusedSimpArgs false
namespace Go.PV
open Go Go.Proofs
set_option maxRecDepth 100000
/-- what the page's readers read is no longer than the signs -/
theorem Rf.closeF_b : ∀ (st : List (Option Int)) (l : List Stp) (q : Rf), q.i ≤ q.l.length → l.length ≤ q.i → (∀ o ∈ l, stpB o) →
    (Rf.closeF st l q).2.i ≤ q.l.length ∧ ∀ st' l', (Rf.closeF st l q).1 = some (st', l') → l'.length ≤ (Rf.closeF st l q).2.i ∧ ∀ o ∈ l', stpB o
  | some k :: st, l, q, h1, h2, h3 => by
    have htl := Rf.take_l q 5 [41]
    unfold Rf.closeF
    split
    · rename_i ho
      obtain ⟨e, hlt⟩ := Rf.take_ok ho
      have := Rf.closeF_b st (l ++ [⟨k, [], zeroV⟩]) (q.take 5 [41]) (by rw [e]; exact hlt) (by rw [e, List.length_append]; show _ + 1 ≤ q.i + 1; omega) (fun o ho => by
        rcases List.mem_append.1 ho with ho | ho
        · exact h3 o ho
        · simp at ho; subst ho; exact ⟨Nat.zero_le _, Nat.zero_le _⟩)
      rw [htl.1] at this
      exact this
    · rename_i ho
      refine ⟨?_, fun st' l' h => by cases h⟩
      dsimp only
      unfold Rf.take
      split
      · rename_i hc
        simp only [Bool.and_eq_true] at hc
        exact is_lt hc.2
      · exact h1
  | none :: st, l, q, h1, h2, h3 => ⟨h1, fun st' l' h => by cases h; exact ⟨h2, h3⟩⟩
  | [], l, q, h1, h2, h3 => ⟨h1, fun st' l' h => by cases h; exact ⟨h2, h3⟩⟩
theorem Rf.exprF_b {L : List Tok} (hb : tokB L) : ∀ (f : Nat) (q : Rf) (st : List (Option Int)) (l : List Stp), q.l = L → q.i ≤ L.length → l.length ≤ q.i → (∀ o ∈ l, stpB o) →
    (Rf.exprF f q st l).2.2.i ≤ L.length ∧ (Rf.exprF f q st l).1.length ≤ L.length ∧ ∀ o ∈ (Rf.exprF f q st l).1, stpB o
  | 0, q, st, l, hl, h1, h2, h3 => ⟨h1, Nat.zero_le _, fun o ho => by cases ho⟩
  | f + 1, q, st, l, hl, h1, h2, h3 => by
    unfold Rf.exprF
    split
    · rename_i hok
      split
      · rename_i hs
        have hlt := is_lt hs
        rw [hl] at hlt
        split
        · exact ⟨hlt, Nat.zero_le _, fun o ho => by cases ho⟩
        · exact Rf.exprF_b hb f q.step (none :: st) l hl hlt (Nat.le_succ_of_le h2) h3
      · split
        · rename_i ht
          obtain ⟨e, hlt⟩ := Rf.term_up ht hok
          rw [hl] at hlt
          have htb := Rf.term_b (q := q) (by rw [hl]; exact hb)
          unfold Rf.contF
          have hc := Rf.closeF_b st (l ++ [pushS q.term.1]) q.term.2 (by rw [e]; show q.i + 1 ≤ q.l.length; rw [hl]; exact hlt) (by rw [e, List.length_append]; show _ + 1 ≤ q.i + 1; omega) (fun o ho => by
            rcases List.mem_append.1 ho with ho | ho
            · exact h3 o ho
            · simp at ho; subst ho; exact htb)
          have hcl := Rf.closeF_l st (l ++ [pushS q.term.1]) q.term.2
          have hql : q.term.2.l = L := by rw [(Rf.term_l q).1, hl]
          rw [hql] at hc hcl
          split
          · rename_i q' e2
            rw [e2] at hc
            exact ⟨hc.1, Nat.zero_le _, fun o ho => by cases ho⟩
          · rename_i l' q' e2
            rw [e2] at hc
            obtain ⟨c1, c2⟩ := hc.2 _ _ rfl
            exact ⟨hc.1, Nat.le_trans c1 hc.1, c2⟩
          · rename_i k st' l' q' e2
            rw [e2] at hc hcl
            obtain ⟨c1, c2⟩ := hc.2 _ _ rfl
            split
            · rename_i j hj
              have hlt2 := Rf.sign_up hj
              rw [hcl.1] at hlt2
              exact Rf.exprF_b hb f q'.step (some j :: st') l' hcl.1 hlt2 (Nat.le_succ_of_le c1) c2
            · exact ⟨hc.1, Nat.zero_le _, fun o ho => by cases ho⟩
        · refine ⟨?_, Nat.zero_le _, fun o ho => by cases ho⟩
          dsimp only
          unfold Rf.term
          split
          · rename_i t ht
            split
            · have := (tok_lt ht).1
              rw [hl] at this; exact this
            · exact h1
          · exact h1
    · exact ⟨h1, Nat.zero_le _, fun o ho => by cases ho⟩
theorem Rf.step_i (q : Rf) : q.step.i = q.i + 1 := rfl
theorem Rf.step_l (q : Rf) : q.step.l = q.l := rfl
theorem Rf.exprO_b {q : Rf} (hb : tokB q.l) (h1 : q.i ≤ q.l.length) : q.exprO.2.2.i ≤ q.l.length ∧ q.exprO.1.length ≤ 1000000 ∧ ∀ o ∈ q.exprO.1, stpB o := by
  obtain ⟨a, b, c⟩ := Rf.exprF_b hb (q.l.length + 1) q [] [] rfl h1 (Nat.zero_le _) (fun o ho => by cases ho)
  exact ⟨a, Nat.le_trans b hb.1, c⟩
theorem Rf.take_u (q : Rf) (k : Int) (s : Bs) (h : q.i ≤ q.l.length) : (q.take k s).i ≤ q.l.length := by
  unfold Rf.take
  split
  · rename_i hc
    simp only [Bool.and_eq_true] at hc
    exact is_lt hc.2
  · exact h
theorem Rf.name_u (q : Rf) (h : q.i ≤ q.l.length) : q.name.2.i ≤ q.l.length := by
  unfold Rf.name
  split
  · rename_i t ht
    split
    · exact (tok_lt ht).1
    · exact h
  · exact h
theorem Rf.num_u (q : Rf) (h : q.i ≤ q.l.length) : q.num.2.i ≤ q.l.length := by
  unfold Rf.num
  split
  · rename_i t ht
    split
    · exact (tok_lt ht).1
    · exact h
  · exact h
theorem Rf.term_u (q : Rf) (h : q.i ≤ q.l.length) : q.term.2.i ≤ q.l.length := by
  unfold Rf.term
  split
  · rename_i t ht
    split
    · exact (tok_lt ht).1
    · exact h
  · exact h
theorem Rf.args_u : ∀ (f : Nat) (q : Rf), q.i ≤ q.l.length → (Rf.args f q).2.i ≤ q.l.length ∧ (Rf.args f q).1.length + q.i ≤ (Rf.args f q).2.i
  | 0, q, h => ⟨h, by show 0 + q.i ≤ q.i; omega⟩
  | f + 1, q, h => by
    unfold Rf.args
    split
    · rename_i hc
      simp only [Bool.and_eq_true] at hc
      have hlt := is_lt hc.2
      have h1 := Rf.term_u q.step hlt
      have h2 := Rf.term_l q.step
      have h3 := Rf.args_u f q.step.term.2 (by rw [h2.1]; exact h1)
      rw [h2.1, Rf.step_l] at h3
      have := Rf.step_i q
      dsimp only
      rw [List.length_cons]
      exact ⟨h3.1, by omega⟩
    · exact ⟨h, by show 0 + q.i ≤ q.i; omega⟩
theorem Rf.atom_u (q : Rf) (h : q.i ≤ q.l.length) : q.atom.2.i ≤ q.l.length ∧ q.atom.1.a.length ≤ q.l.length := by
  have hn := Rf.name_u q h
  have hl := Rf.name_l q
  cases hc : (q.name.2.ok && q.name.2.is 5 [40]) with
  | false => rw [qatom_no hc]; exact ⟨hn, Nat.zero_le _⟩
  | true =>
    rw [qatom_yes hc]
    simp only [Bool.and_eq_true] at hc
    have hlt := is_lt hc.2
    rw [hl.1] at hlt
    have hup := Rf.name_up hc.1
    have hsi := Rf.step_i q.name.2
    have h1 := Rf.term_u q.name.2.step (by rw [Rf.step_i, Rf.step_l, hl.1]; exact hlt)
    have h2 := Rf.term_l q.name.2.step
    have h3 := Rf.args_u q.name.2.l.length q.name.2.step.term.2 (by rw [h2.1]; exact h1)
    have h4 := Rf.args_l q.name.2.l.length q.name.2.step.term.2
    rw [h2.1, Rf.step_l, hl.1] at h3 h4
    have h5 := Rf.take_u (Rf.args q.l.length q.name.2.step.term.2).2 5 [41] (by rw [h4.1]; exact h3.1)
    rw [h4.1] at h5
    rw [hl.1]
    dsimp only
    rw [List.length_cons]
    exact ⟨h5, by omega⟩
theorem Rf.atom_B {q : Rf} (hb : tokB q.l) (h : q.i ≤ q.l.length) : q.atom.1.n.length ≤ 1000000 ∧ q.atom.1.a.length ≤ 1000000 ∧ ∀ t ∈ q.atom.1.a, t.v.length ≤ 1000000 ∧ t.x.s.length ≤ 1000000 := by
  obtain ⟨a, b⟩ := Rf.atom_b hb
  have := (Rf.atom_u q h).2
  have := hb.1
  exact ⟨a, by omega, b⟩
theorem Rf.condF_B {q : Rf} (hb : tokB q.l) (h : q.i ≤ q.l.length) : cndB q.condF.1 ∧ q.condF.2.2.i ≤ q.l.length := by
  unfold Rf.condF
  split
  · rename_i hs
    have hlt := is_lt hs
    obtain ⟨a, b, c⟩ := Rf.atom_B (q := q.step) hb hlt
    exact ⟨⟨a, b, c, Nat.zero_le _, fun o ho => (by cases ho), Nat.zero_le _, fun o ho => (by cases ho)⟩, (Rf.atom_u q.step hlt).1⟩
  · split
    · rename_i hs
      have hlt := is_lt hs
      obtain ⟨a, b, c⟩ := Rf.exprO_b (q := q.step) hb hlt
      have hl := (Rf.exprO_l q.step).1
      rw [Rf.step_l] at a hl
      have mk : ∀ (w : Int) (M : List Stp), M.length ≤ 1000000 → (∀ o ∈ M, stpB o) → cndB ⟨3, zeroA, w, q.step.exprO.1, M⟩ := fun w M m1 m2 => ⟨Nat.zero_le _, Nat.zero_le _, fun o ho => (by cases ho), b, c, m1, m2⟩
      dsimp only
      split
      · exact ⟨mk _ _ (Nat.zero_le _) (fun o ho => by cases ho), a⟩
      · have hp : ∀ (w : Int) (r : Rf), (if w = 0 then r.fail else r : Rf).l = r.l ∧ (if w = 0 then r.fail else r : Rf).i = r.i := fun w r => by split <;> exact ⟨rfl, rfl⟩
        have hpo : (if q.step.exprO.2.2.wayF = 0 then q.step.exprO.2.2.fail else q.step.exprO.2.2 : Rf).ok = true → q.step.exprO.2.2.i < q.l.length := fun ho => by
          by_cases h0 : q.step.exprO.2.2.wayF = 0
          · rw [if_pos h0] at ho; cases ho
          · rw [← hl]; exact (wayF_ne h0).2
        obtain ⟨p1, p2⟩ := hp q.step.exprO.2.2.wayF q.step.exprO.2.2
        generalize (if q.step.exprO.2.2.wayF = 0 then q.step.exprO.2.2.fail else q.step.exprO.2.2) = p at *
        have hpl : p.l = q.l := by rw [p1, hl]
        split
        · rename_i ho
          have hlt2 := hpo ho
          obtain ⟨a2, b2, c2⟩ := Rf.exprO_b (q := p.step) (by rw [Rf.step_l, hpl]; exact hb) (by rw [Rf.step_l, hpl, Rf.step_i, p2]; exact hlt2)
          have hl2 := (Rf.exprO_l p.step).1
          rw [Rf.step_l, hpl] at a2 hl2
          split
          · exact ⟨mk _ _ b2 c2, a2⟩
          · have := Rf.take_u p.step.exprO.2.2 5 [93] (by rw [hl2]; exact a2)
            rw [hl2] at this
            exact ⟨mk _ _ b2 c2, this⟩
        · have := Rf.take_u p 5 [93] (by rw [hpl, p2]; exact a)
          rw [hpl] at this
          exact ⟨mk _ _ (Nat.zero_le _) (fun o ho => by cases ho), this⟩
    · obtain ⟨a, b, c⟩ := Rf.atom_B hb h
      exact ⟨⟨a, b, c, Nat.zero_le _, fun o ho => (by cases ho), Nat.zero_le _, fun o ho => (by cases ho)⟩, (Rf.atom_u q h).1⟩
theorem Rf.argsF_B {L : List Tok} (hb : tokB L) : ∀ (f : Nat) (q : Rf) (l : List (List Stp)), q.l = L → q.i < L.length → (∀ x ∈ l, x.length ≤ 1000000 ∧ ∀ o ∈ x, stpB o) →
    (∀ x ∈ (Rf.argsF f q l).1, x.length ≤ 1000000 ∧ ∀ o ∈ x, stpB o) ∧ (Rf.argsF f q l).1.length ≤ l.length + f ∧ (Rf.argsF f q l).2.2.i ≤ L.length
  | 0, q, l, hl, h, hx => ⟨hx, Nat.le_refl _, h⟩
  | f + 1, q, l, hl, h, hx => by
    unfold Rf.argsF
    obtain ⟨a, b, c⟩ := Rf.exprO_b (q := q.step) (by rw [Rf.step_l, hl]; exact hb) (by rw [Rf.step_l, hl]; exact h)
    have hl2 := (Rf.exprO_l q.step).1
    rw [Rf.step_l, hl] at a hl2
    have hx2 : ∀ x ∈ l ++ [q.step.exprO.1], x.length ≤ 1000000 ∧ ∀ o ∈ x, stpB o := fun x hm => by
      rcases List.mem_append.1 hm with hm | hm
      · exact hx x hm
      · simp at hm; subst hm; exact ⟨b, c⟩
    dsimp only
    split
    · exact ⟨hx, by dsimp only; omega, a⟩
    · split
      · rename_i hc
        simp only [Bool.and_eq_true] at hc
        have hlt := is_lt hc.2
        rw [hl2] at hlt
        obtain ⟨r1, r2, r3⟩ := Rf.argsF_B hb f q.step.exprO.2.2 (l ++ [q.step.exprO.1]) hl2 hlt hx2
        exact ⟨r1, by rw [List.length_append, List.length_cons, List.length_nil] at r2; omega, r3⟩
      · exact ⟨hx2, by dsimp only; rw [List.length_append, List.length_cons, List.length_nil]; omega, a⟩
theorem Rf.actF_B {q : Rf} (hb : tokB q.l) (hs5 : q.l.length + 1 ≤ 1000000) (h : q.i ≤ q.l.length) : actB q.actF.1 ∧ q.actF.2.2.i ≤ q.l.length := by
  unfold Rf.actF
  split
  · rename_i hs
    have hlt := is_lt hs
    dsimp only
    refine ⟨⟨Nat.zero_le _, Nat.zero_le _, fun o ho => by cases ho⟩, ?_⟩
    split
    · exact Rf.num_u q.step.fail hlt
    · exact Rf.num_u q.step hlt
  · have e0 := Rf.take_l q 5 [43]
    have u0 := Rf.take_u q 5 [43] h
    have b0 : tokB (q.take 5 [43]).l := by rw [e0.1]; exact hb
    have n0 := Rf.name_b b0
    have e1 := Rf.name_l (q.take 5 [43])
    have u1 := Rf.name_u (q.take 5 [43]) (by rw [e0.1]; exact u0)
    rw [e0.1] at e1 u1
    dsimp only
    split
    · rename_i hc
      simp only [Bool.and_eq_true] at hc
      have hlt := is_lt hc.2
      rw [e1.1] at hlt
      obtain ⟨r1, r2, r3⟩ := Rf.argsF_B hb (q.l.length + 1) (q.take 5 [43]).name.2 [] e1.1 hlt (fun x hx => by cases hx)
      have e2 := Rf.argsF_l (q.l.length + 1) (q.take 5 [43]).name.2 []
      have hB : actB ⟨1, (q.take 5 [43]).name.1, (Rf.argsF (q.l.length + 1) (q.take 5 [43]).name.2 []).1, 0⟩ := ⟨n0, by rw [List.length_nil] at r2; dsimp only; omega, r1⟩
      split
      · exact ⟨hB, r3⟩
      · have u2 := Rf.take_u (Rf.argsF (q.l.length + 1) (q.take 5 [43]).name.2 []).2.2 5 [41] (by rw [e2.1, e1.1]; exact r3)
        rw [e2.1, e1.1] at u2
        exact ⟨hB, u2⟩
    · exact ⟨⟨n0, Nat.zero_le _, fun o ho => by cases ho⟩, u1⟩
theorem Rf.loopF_B {α : Type} {g : Rf → α × Bool × Rf} {B : α → Prop} {L : List Tok} (hg : ∀ q : Rf, q.l = L → q.i ≤ L.length → B (g q).1 ∧ (g q).2.2.l = L ∧ (g q).2.2.i ≤ L.length) : ∀ (f : Nat) (q : Rf) (l : List α), q.l = L → q.i ≤ L.length → (∀ x ∈ l, B x) →
    (∀ x ∈ (Rf.loopF g f q l).1, B x) ∧ (Rf.loopF g f q l).1.length ≤ l.length + f ∧ (Rf.loopF g f q l).2.2.l = L ∧ (Rf.loopF g f q l).2.2.i ≤ L.length
  | 0, q, l, hl, h, hx => ⟨hx, Nat.le_refl _, hl, h⟩
  | f + 1, q, l, hl, h, hx => by
    unfold Rf.loopF
    split
    · obtain ⟨a, b, c⟩ := hg q hl h
      have hx2 : ∀ x ∈ l ++ [(g q).1], B x := fun x hm => by
        rcases List.mem_append.1 hm with hm | hm
        · exact hx x hm
        · simp at hm; subst hm; exact a
      dsimp only
      split
      · exact ⟨hx, by dsimp only; omega, b, c⟩
      · split
        · rename_i hc
          simp only [Bool.and_eq_true] at hc
          have hlt := is_lt hc.2
          rw [b] at hlt
          obtain ⟨r1, r2, r3, r4⟩ := Rf.loopF_B hg f (g q).2.2.step (l ++ [(g q).1]) b hlt hx2
          exact ⟨r1, by rw [List.length_append, List.length_cons, List.length_nil] at r2; omega, r3, r4⟩
        · exact ⟨hx2, by dsimp only; rw [List.length_append, List.length_cons, List.length_nil]; omega, b, c⟩
    · exact ⟨hx, by dsimp only; omega, hl, h⟩
theorem Rf.ruleF_B {q : Rf} (hb : tokB q.l) (hs5 : q.l.length + 1 ≤ 1000000) (h : q.i ≤ q.l.length) : rulB q.ruleF.1 := by
  unfold Rf.ruleF Rf.condsF Rf.actsF
  have e0 := Rf.take_l q 1 [114, 117, 108, 101]
  have u0 := Rf.take_u q 1 [114, 117, 108, 101] h
  have b0 : tokB (q.take 1 [114, 117, 108, 101]).l := by rw [e0.1]; exact hb
  have n0 := Rf.name_b b0
  have e1 := Rf.name_l (q.take 1 [114, 117, 108, 101])
  have u1 := Rf.name_u (q.take 1 [114, 117, 108, 101]) (by rw [e0.1]; exact u0)
  rw [e0.1] at e1 u1
  have e2 := Rf.num_l (q.take 1 [114, 117, 108, 101]).name.2
  have u2 := Rf.num_u (q.take 1 [114, 117, 108, 101]).name.2 (by rw [e1.1]; exact u1)
  rw [e1.1] at e2 u2
  have e3 := Rf.take_l (q.take 1 [114, 117, 108, 101]).name.2.num.2 5 [58]
  have u3 := Rf.take_u (q.take 1 [114, 117, 108, 101]).name.2.num.2 5 [58] (by rw [e2.1]; exact u2)
  rw [e2.1] at e3 u3
  have hc := Rf.loopF_B (g := Rf.condF) (B := cndB) (L := q.l) (fun p hp hi => by
    have := Rf.condF_B (q := p) (by rw [hp]; exact hb) (by rw [hp]; exact hi)
    rw [hp] at this
    exact ⟨this.1, by rw [(Rf.condF_l p).1, hp], this.2⟩) (q.l.length + 1) ((q.take 1 [114, 117, 108, 101]).name.2.num.2.take 5 [58]) [] e3.1 u3 (fun x hx => by cases hx)
  dsimp only
  generalize Rf.loopF Rf.condF (q.l.length + 1) ((q.take 1 [114, 117, 108, 101]).name.2.num.2.take 5 [58]) [] = C at *
  obtain ⟨c1, c2, c3, c4⟩ := hc
  rw [List.length_nil] at c2
  split
  · exact ⟨n0, by dsimp only; omega, c1, Nat.zero_le _, fun x hx => by cases hx⟩
  · have e4 := Rf.take_l C.2.2 5 [45, 62]
    have u4 := Rf.take_u C.2.2 5 [45, 62] (by rw [c3]; exact c4)
    rw [c3] at e4 u4
    have ha := Rf.loopF_B (g := Rf.actF) (B := actB) (L := q.l) (fun p hp hi => by
      have := Rf.actF_B (q := p) (by rw [hp]; exact hb) (by rw [hp]; exact hs5) (by rw [hp]; exact hi)
      rw [hp] at this
      exact ⟨this.1, by rw [(Rf.actF_l p).1, hp], this.2⟩) (q.l.length + 1) (C.2.2.take 5 [45, 62]) [] e4.1 u4 (fun x hx => by cases hx)
    generalize Rf.loopF Rf.actF (q.l.length + 1) (C.2.2.take 5 [45, 62]) [] = A at *
    obtain ⟨a1, a2, a3, a4⟩ := ha
    rw [List.length_nil] at a2
    split
    · exact ⟨n0, by dsimp only; omega, c1, by dsimp only; omega, a1⟩
    · exact ⟨n0, by dsimp only; omega, c1, by dsimp only; omega, a1⟩
theorem qreadR_good (l : List Tok) (i : Nat) (hb : tokB l) (hs5 : l.length + 1 ≤ 1000000) (hi : i ≤ l.length) : Good Tryz.prog 55 [.sl 4 (toksV l), .int .i64 i] [] [.agg (readR l i).1.v, .int .i64 (readR l i).2.1, .int .i64 (readR l i).2.2] [] := by
  rw [readR_ref hi]
  refine good_of hP Tryz.func55 (by kernel_rfl) (lv := [0, 1, 4, 5, 6, 7, 8, 9, 14, 23, 27, 34]) (js := []) ⟨rfl, rfl, rfl, rfl, rfl, rfl, _, rfl, ?_⟩
  have hl := hb.1
  conv => whnf
  refine call0 (in9_good i 0 (toksV l).length) ?_
  rw [List.length_map, decide_eq_true (by omega)]
  conv => whnf
  refine callN [(71, 0)] (qruler_good ⟨l, i, true⟩ hb) ?_ 
  conv => whnf
  refine ⟨⟨⟩, rfl, ?_⟩
  have hB := Rf.ruleF_B (q := ⟨l, i, true⟩) hb hs5 hi
  unfold refReadR
  dsimp only
  generalize (⟨l, i, true⟩ : Rf).ruleF = x at *
  obtain ⟨a, d, ⟨xl, xi, xo⟩⟩ := x
  conv => whnf
  cases d with
  | true =>
    rw [if_pos rfl]
    conv => whnf
    exact fin0 rfl trivial
  | false =>
  rw [if_neg (by simp)]
  cases xo with
  | false =>
    rw [if_neg (by simp)]
    conv => whnf
    refine ⟨by kernel_rfl, ?_⟩
    conv => whnf
    exact fin0 rfl trivial
  | true =>
  rw [if_pos rfl]
  conv => whnf
  refine call0 (qrule_good a hB) ?_
  cases ha : ruleOk a with
  | false =>
    rw [if_neg (by simp)]
    conv => whnf
    exact fin0 rfl trivial
  | true =>
    rw [if_pos rfl]
    conv => whnf
    refine ⟨by kernel_rfl, ?_⟩
    conv => whnf
    exact fin0 rfl trivial
theorem qreadR_bad (l : List Tok) (i : Int) (hl : l.length ≤ 1000000) (hi : ¬ (0 ≤ i ∧ i ≤ l.length)) : Good Tryz.prog 55 [.sl 4 (toksV l), .int .i64 i] [] [.agg zeroR.v, .int .i64 0, .int .i64 1] [] := by
  refine good_of hP Tryz.func55 (by kernel_rfl) (lv := [0, 1, 4, 5, 6, 7, 8, 9, 14, 23, 27, 34]) (js := []) ⟨rfl, rfl, rfl, rfl, rfl, rfl, _, rfl, ?_⟩
  conv => whnf
  refine call0 (in9_good i 0 (toksV l).length) ?_
  rw [List.length_map, decide_eq_false (by omega)]
  conv => whnf
  exact fin0 rfl trivial
theorem qparseR_good (s : Bs) (hs : s.length ≤ 20000) : Good Tryz.prog 56 [.str s] [] [.agg (parseR s).1.v, .int .i64 (parseR s).2] [] := by
  refine good_of hP Tryz.func56 (by kernel_rfl) (lv := [0, 2, 3, 4, 6, 7, 8, 16, 32]) (js := []) ⟨rfl, rfl, rfl, rfl, rfl, rfl, _, rfl, ?_⟩
  have hb := tokB_R s hs
  have hc : (toksR s).length + 1 ≤ 1000000 := by
    rcases chain_len (chain_R s) with h | h
    · omega
    · rw [h]; decide
  unfold parseR
  conv => whnf
  refine call0 (rlex_good s (by omega)) ?_
  by_cases he : errR s = 0
  · rw [he, if_pos rfl]
    generalize posR s = z1
    generalize toksR s = l at *
    dsimp only
    conv => whnf
    refine call0 (qreadR_good l 0 hb (by omega) (Nat.zero_le _)) ?_
    have hok := @readR_ok l 0
    generalize readR l 0 = x at *
    conv => whnf
    refine branch_of (fun h => ?_) (fun h => ?_)
    · rw [Bool.not_eq_true'] at h
      have h := of_decide_eq_false h
      rw [if_neg (fun q => h q.1)]
      conv => whnf
      exact fin0 rfl trivial
    rw [Bool.not_eq_false'] at h
    have h := of_decide_eq_true h
    obtain ⟨_, _, hle⟩ := hok h
    conv => whnf
    refine branch_of (fun h2 => ?_) (fun h2 => ?_)
    · rw [Bool.not_eq_true'] at h2
      have h2 := of_decide_eq_false h2
      rw [List.length_map] at h2
      rw [if_neg (fun q => q.2 (by omega))]
      conv => whnf
      exact fin0 rfl trivial
    · rw [Bool.not_eq_false'] at h2
      have h2 := of_decide_eq_true h2
      rw [List.length_map] at h2
      rw [if_pos ⟨h, by omega⟩]
      conv => whnf
      exact fin0 rfl trivial
  · rw [if_neg he]
    generalize posR s = z1
    conv => whnf
    refine branch_of (fun h => ?_) (fun h => ?_)
    · conv => whnf
      exact fin0 rfl trivial
    · exact absurd (of_decide_eq_true (by simpa using h)) he
end Go.PV
namespace Go.PV
open Go Go.Proofs
set_option maxRecDepth 100000
theorem zeroR_B : rulB zeroR := ⟨Nat.zero_le _, Nat.zero_le _, fun x hx => (by cases hx), Nat.zero_le _, fun x hx => (by cases hx)⟩
theorem readR_B (l : List Tok) (n : Nat) : rulB (readR l n).1 := by
  have := Rd.rule_s (rd0 l n)
  unfold readR
  dsimp only
  split
  · split
    · exact this
    · exact zeroR_B
  · exact zeroR_B
theorem parseR_B (s : Bs) : rulB (parseR s).1 := by
  have := readR_B (toksR s) 0
  unfold parseR
  dsimp only
  split
  · split
    · exact this
    · exact zeroR_B
  · exact zeroR_B
theorem toksH_L {l : List Tok} (h : toksH l = false) : l.length + 1 ≤ 1000000 := by
  unfold toksH tokH at h
  simp at h
  omega
theorem rulesExact_good (r : Rul) (l : List Tok) (i : Int) (s : Bs) {p1 : Prop} (_ : p1) (_ : l.length ≤ maxLen) {p : Tok → Prop} (_ : ∀ v ∈ l, p v) (_ : (Lit.int .i64 i).wf = true) (_ : s.length ≤ maxLen) : Good Tryz.prog 11 [.agg r.v, .sl 4 (toksV l), .int .i64 i, .str s] [] [.bool true] [] := by
  refine good_of hP Tryz.func11 (by kernel_rfl) (lv := [0, 1, 2, 3, 4, 8, 9, 10, 11, 12, 13, 14, 15, 16, 17, 18, 19, 20, 21, 22, 23, 34, 96, 99]) (js := []) ⟨rfl, rfl, rfl, rfl, rfl, rfl, _, rfl, ?_⟩
  conv => whnf
  refine call0 (heavyR_good r) ?_
  cases hr : rulH r with
  | true =>
    conv => whnf
    exact fin0 rfl trivial
  | false =>
  have hb := rulH_B hr
  conv => whnf
  refine call0 (heavyT_good l) ?_
  cases ht : toksH l with
  | true =>
    conv => whnf
    exact fin0 rfl trivial
  | false =>
  have htb := toksH_B ht
  have htl : l.length + 1 ≤ 1000000 := toksH_L ht
  conv => whnf
  refine branch_of (fun hs => ?_) (fun hs => ?_)
  · conv => whnf
    exact fin0 rfl trivial
  have hs := of_decide_eq_false hs
  obtain ⟨z, zi, ze, hzB, z1, z2⟩ : ∃ z zi ze, rulB z ∧ Good Tryz.prog 53 [.sl 4 (toksV l), .int .i64 i] [] [.agg z.v, .int .i64 zi, .int .i64 ze] [] ∧ Good Tryz.prog 55 [.sl 4 (toksV l), .int .i64 i] [] [.agg z.v, .int .i64 zi, .int .i64 ze] [] := by
    by_cases hi : 0 ≤ i ∧ i ≤ l.length
    · obtain ⟨n, rfl⟩ : ∃ n : Nat, i = n := ⟨i.toNat, by omega⟩
      exact ⟨_, _, _, readR_B l n, readR_good l n htb (by omega), qreadR_good l n htb htl (by omega)⟩
    · exact ⟨_, _, _, zeroR_B, readR_bad l i htb.1 hi, qreadR_bad l i htb.1 hi⟩
  have hp1 := parseR_good s (by omega)
  have hp2 := qparseR_good s (by omega)
  have hpB := parseR_B s
  generalize parseR s = y at *
  have htx := rtext_good r hb
  have hck := rcheck_good r hb
  conv => whnf
  refine call0 (twinRule_own r hb) ?_
  conv => whnf
  refine call0 (htx) ?_
  conv => whnf
  refine call0 (z1) ?_
  conv => whnf
  refine call0 (hp1) ?_
  conv => whnf
  refine call0 (z2) ?_
  conv => whnf
  refine call0 (hp2) ?_
  conv => whnf
  refine call0 (keepRule_good z z hzB) ?_
  rw [decide_eq_true rfl]
  conv => whnf
  refine branch_of (fun h => ?_) (fun h => ?_)
  · rw [Bool.not_eq_true'] at h; exact absurd rfl (of_decide_eq_false h)
  conv => whnf
  refine branch_of (fun h => ?_) (fun h => ?_)
  · rw [Bool.not_eq_true'] at h; exact absurd rfl (of_decide_eq_false h)
  conv => whnf
  refine call0 (keepRule_good y.1 y.1 hpB) ?_
  rw [decide_eq_true rfl]
  conv => whnf
  refine branch_of (fun h => ?_) (fun h => ?_)
  · rw [Bool.not_eq_true'] at h; exact absurd rfl (of_decide_eq_false h)
  conv => whnf
  refine call0 (keepRule_good r r hb) ?_
  rw [decide_eq_true rfl]
  conv => whnf
  refine call0 (qrule_good r hb) ?_
  cases hk : ruleOk r with
  | false =>
    rw [hk, if_neg (by simp)] at hck
    rcases ruleE_cases r with ⟨c1, c2, c3, c4⟩ | ⟨c1, c2, c3, c4⟩
    · rw [hk] at c2; cases c2
    rw [c2, c4 hk]
    conv => whnf
    refine call0 (hck) ?_
    conv => whnf
    refine call0 (wakes11_good) ?_
    conv => whnf
    exact fin0 rfl trivial
  | true =>
    rw [hk, if_pos rfl] at hck
    have hlen := ruleT_len hk
    conv => whnf
    refine call0 (qruleT_good r hb hk) ?_
    conv => whnf
    refine call0 (qfit_good (ruleT r) (by omega)) ?_
    conv => whnf
    refine call0 (hck) ?_
    have hX : ruleX r = if 20000 < (ruleT r).length then [] else ruleT r := by
      unfold ruleX ruleE; rw [hk, if_pos rfl]; split <;> simp
    have hE : ruleE r = if 20000 < (ruleT r).length then 2 else 0 := by
      unfold ruleE; rw [hk, if_pos rfl]
    rw [hX, hE]
    generalize (if 20000 < (ruleT r).length then [] else ruleT r) = X1
    generalize (if 20000 < (ruleT r).length then (2 : Int) else 0) = X2
    conv => whnf
    refine branch_of (fun h4 => ?_) (fun h4 => ?_)
    · conv => whnf
      refine branch_of (fun h5 => ?_) (fun h5 => ?_)
      · conv => whnf
        refine call0 (wakes11_good) ?_
        conv => whnf
        exact fin0 rfl trivial
      · exact absurd rfl (of_decide_eq_false h5)
    · exact absurd rfl (of_decide_eq_false h4)
end Go.PV
namespace Go.PV
open Go Go.RowKit
/-! an argument that can be read as data, as plain data -/
def cel (w : World) (b o : Nat) (u : Value) : Prop := w.cell? ⟨b, o, none⟩ = some u
def CellsW (w : World) (l : List V) (cs : List Value) : Prop := cs.length = l.length ∧ ∀ (j : Nat) (p : V), l[j]? = some p → ∃ u, cs[j]? = some u ∧ Sh (cel w) p u
theorem CellsW.one {w : World} {p : V} {u : Value} (h : Sh (cel w) p u) : CellsW w [p] [u] := ⟨rfl, fun j q hj => by
  cases j with
  | zero => simp at hj; subst hj; exact ⟨u, rfl, h⟩
  | succ j => simp at hj⟩
theorem CellsW.append {w : World} {l m : List V} {cs ds : List Value} (h : CellsW w l cs) (k : CellsW w m ds) : CellsW w (l ++ m) (cs ++ ds) := ⟨by simp [h.1, k.1], fun j p hj => by
  rcases Nat.lt_or_ge j l.length with hl | hl
  · rw [List.getElem?_append_left hl] at hj
    rw [List.getElem?_append_left (by rw [h.1]; exact hl)]; exact h.2 j p hj
  · rw [List.getElem?_append_right hl] at hj
    rw [List.getElem?_append_right (by rw [h.1]; exact hl), h.1]; exact k.2 _ p hj⟩
structure OpensV {α : Type} (n : Nat) (c : α → List V) (P : Program) (t : TypeId) (ok : α → Prop) : Prop where
  cells : P.cellsOf t = n
  len : ∀ v, (c v).length = n
  opens : ∀ {H : Type} {enc : TypeId × Value → H} {w : World} {base : Nat} {spare : Nat → Bool} {held : Bool} {fuel : Nat} {cs : List Value} {x : DataW H × List MemPlace},
    DataW.trod enc P w base spare held fuel t cs = some x → ∃ v, CellsW w (c v) cs ∧ ok v
section
variable {P : Program} {t : TypeId}
theorem OpensV.mono {α : Type} {n : Nat} {c : α → List V} {ok ok' : α → Prop} (h : OpensV n c P t ok) (hm : ∀ v, ok v → ok' v) : OpensV n c P t ok' :=
  ⟨h.cells, h.len, fun hx => by obtain ⟨v, h1, h2⟩ := h.opens hx; exact ⟨v, h1, hm v h2⟩⟩
theorem OpensV.int {k : IntKind} (hu : P.underlying t = some (.int k)) (hc : P.cellsOf t = 1) : OpensV 1 (fun n => [.int k n]) P t (fun n => (Lit.int k n).wf = true) :=
  ⟨hc, fun _ => rfl, fun hx => by obtain ⟨m, rfl, rfl, hw⟩ := DataW.trod_int hu hx; exact ⟨m, .one (.int _ _), hw⟩⟩
theorem OpensV.string (hu : P.underlying t = some .string) (hc : P.cellsOf t = 1) : OpensV 1 (fun s : List UInt8 => [.str s]) P t (fun s => s.length ≤ maxLen) :=
  ⟨hc, fun _ => rfl, fun hx => by obtain ⟨s, rfl, _, hw⟩ := DataW.trod_string hu hx; exact ⟨s.data.toList, .one (.str _), hw⟩⟩
theorem OpensV.bool (hu : P.underlying t = some .bool) (hc : P.cellsOf t = 1) : OpensV 1 (fun b => [.bool b]) P t (fun _ => True) :=
  ⟨hc, fun _ => rfl, fun hx => by obtain ⟨b, rfl, _⟩ := DataW.trod_bool hu hx; exact ⟨b, .one (.bool _), trivial⟩⟩
theorem OpensV.iso {α β : Type} {n : Nat} {c : α → List V} {ok : α → Prop} {f : β → α} (g : α → β) (hg : ∀ a, f (g a) = a) (h : OpensV n c P t ok) : OpensV n (fun b => c (f b)) P t (fun b => ok (f b)) :=
  ⟨h.cells, fun b => h.len (f b), fun hx => by
    obtain ⟨v, h1, h2⟩ := h.opens hx
    exact ⟨g v, by rw [hg]; exact h1, by rw [hg]; exact h2⟩⟩
/-- fields that lie side by side from off on -/
structure OpensVs {α : Type} (n : Nat) (c : α → List V) (P : Program) (fs : List Field) (off : Nat) (ok : α → Prop) : Prop where
  len : ∀ v, (c v).length = n
  opens : ∀ {H : Type} {enc : TypeId × Value → H} {w : World} {base : Nat} {spare : Nat → Bool} {held : Bool} {fuel : Nat} {cs : List Value},
    off + n = cs.length → (∀ (i : Nat) (f : Field), fs[i]? = some f → ∃ x, DataW.trod enc P w base spare held fuel f.type ((cs.drop f.offset).take (P.cellsOf f.type)) = some x) → ∃ v, CellsW w (c v) (cs.drop off) ∧ ok v
theorem OpensVs.one {α : Type} {n : Nat} {c : α → List V} {f : Field} {off : Nat} {ok : α → Prop} (ho : f.offset = off) (h : OpensV n c P f.type ok) : OpensVs n c P [f] off ok := by
  refine ⟨h.len, ?_⟩
  intro H enc w base spare held fuel cs hl hx
  obtain ⟨x, hx⟩ := hx 0 f rfl
  rw [ho, h.cells, List.take_of_length_le (by simp; omega)] at hx
  exact h.opens hx
theorem OpensVs.cons {α β : Type} {n m : Nat} {c : α → List V} {d : β → List V} {f : Field} {fs : List Field} {off : Nat} {ok : α → Prop} {ok' : β → Prop} (ho : f.offset = off) (h : OpensV n c P f.type ok) (h' : OpensVs m d P fs (off + n) ok') :
    OpensVs (n + m) (fun v : α × β => c v.1 ++ d v.2) P (f :: fs) off (fun v => ok v.1 ∧ ok' v.2) := by
  refine ⟨fun v => by rw [List.length_append, h.len, h'.len], ?_⟩
  intro H enc w base spare held fuel cs hl hx
  obtain ⟨x, hx0⟩ := hx 0 f rfl
  rw [ho, h.cells] at hx0
  obtain ⟨v, hv, ov⟩ := h.opens hx0
  obtain ⟨u, hu, ou⟩ := h'.opens (cs := cs) (by omega) (fun i g hg => hx (i + 1) g hg)
  refine ⟨(v, u), ?_, ov, ou⟩
  have := hv.append hu
  rwa [← List.drop_drop, List.take_append_drop] at this
theorem OpensV.struct {α : Type} {n : Nat} {c : α → List V} {fs : Array Field} {ok : α → Prop} (hu : P.underlying t = some (.struct fs)) (hc : P.cellsOf t = n) (h : OpensVs n c P fs.toList 0 ok) : OpensV n c P t ok := by
  refine ⟨hc, h.len, ?_⟩
  intro H enc w base spare held fuel cs x hx
  obtain ⟨xs, n, rfl, _, hl, hxl, hf⟩ := DataW.trod_struct hu hx
  have := h.opens (cs := cs) (enc := enc) (w := w) (base := base) (spare := spare) (held := held) (fuel := n) (by omega) (by
    intro i f hi
    have hi' : fs[i]? = some f := by simpa using hi
    have hlt : i < xs.length := by
      rw [hxl]
      exact (Array.getElem?_eq_some_iff.1 hi').1
    exact ⟨xs[i], by rw [hf i f hi', List.getElem?_eq_getElem hlt]⟩)
  simpa using this
theorem list_of {α : Type} {Q : Nat → α → Prop} : ∀ n : Nat, (∀ i, i < n → ∃ v, Q i v) → ∃ l : List α, l.length = n ∧ ∀ i v, l[i]? = some v → Q i v := by
  intro n
  induction n with
  | zero => intro _; exact ⟨[], rfl, fun i v h => by simp at h⟩
  | succ n ih =>
    intro h
    obtain ⟨l, hl, hq⟩ := ih (fun i hi => h i (by omega))
    obtain ⟨v, hv⟩ := h n (by omega)
    refine ⟨l ++ [v], by simp [hl], ?_⟩
    intro i u hu
    by_cases hi : i < l.length
    · rw [List.getElem?_append_left hi] at hu
      exact hq i u hu
    · rw [List.getElem?_append_right (by omega)] at hu
      have h0 : i - l.length = 0 := by
        by_cases h0 : i - l.length = 0
        · exact h0
        · rw [List.getElem?_eq_none (by simp; omega)] at hu; cases hu
      rw [h0] at hu
      simp at hu
      subst hu
      have : i = n := by omega
      subst this
      exact hv
theorem cell_spot {w : World} {a : Addr} {u : Value} (h : w.cell? a = some u) : a.spot = none := by
  unfold World.cell? at h
  split at h
  · cases hs : a.spot with
    | none => rfl
    | some s => rw [hs] at h; simp at h
  · cases h
/-- a slice that is read as data -/
theorem OpensV.row {α : Type} {n : Nat} {c : α → List V} {e : TypeId} {ok : α → Prop} (h : OpensV n c P e ok) (h0 : 0 < n) (hu : P.underlying t = some (.slice e))
    {H : Type} {enc : TypeId × Value → H} {w : World} {base : Nat} {spare : Nat → Bool} {held : Bool} {fuel : Nat} {cs : List Value} {x : DataW H × List MemPlace}
    (hx : DataW.trod enc P w base spare held fuel t cs = some x) : ∃ (l : List α) (A : Option Addr) (cap : Nat), cs = [.slice A l.length cap] ∧ Sh (cel w) (.sl n (l.map c)) (.slice A l.length cap) ∧ l.length ≤ cap ∧ cap ≤ maxLen ∧ ∀ v ∈ l, ok v := by
  rcases DataW.trod_slice hu hx with ⟨hcs, _⟩ | ⟨a, len, cap, elems, rest, m, rfl, hcs, _, hb, hl, hm, hlen, hel, _⟩
  · exact ⟨[], none, 0, hcs, .sl0 _ _ _, Nat.le_refl _, by unfold maxLen; omega, fun v hv => by simp at hv⟩
  · obtain ⟨l, hll, hq⟩ := list_of (Q := fun i v => ∃ cs, w.cells? base (a.add (i * P.cellsOf e)) (P.cellsOf e) = some cs ∧ CellsW w (c v) cs ∧ ok v) len (by
      intro i hi
      have h1 := hel i hi
      rw [List.getElem?_eq_getElem (by omega), Option.bind_eq_some_iff] at h1
      obtain ⟨cs, h2, h3⟩ := h1
      obtain ⟨v, h4, h5⟩ := h.opens h3
      exact ⟨v, cs, h2, h4, h5⟩)
    have hok : ∀ v ∈ l, ok v := by
      intro v hv
      obtain ⟨i, hi⟩ := List.getElem?_of_mem hv
      obtain ⟨_, _, _, h5⟩ := hq i v hi
      exact h5
    refine ⟨l, some a, cap, by rw [hll]; exact hcs, ?_, by omega, hm, hok⟩
    by_cases hz : l = []
    · subst hz; exact .sl0 _ _ _
    have at_ : ∀ (i : Nat) (v : α) (j : Nat) (p : V), l[i]? = some v → (c v)[j]? = some p → ∃ u, w.cell? ((a.add (i * n)).add j) = some u ∧ Sh (cel w) p u := by
      intro i v j p hi hj
      obtain ⟨cs, h2, h4, _⟩ := hq i v hi
      obtain ⟨_, h6, h7⟩ := World.cells?_some h2
      obtain ⟨u, h8, h9⟩ := h4.2 j p hj
      have hlt : j < P.cellsOf e := by rw [← h6]; exact (List.getElem?_eq_some_iff.1 h8).1
      have h10 := h7 j hlt
      rw [h.cells, h8] at h10
      exact ⟨u, h10, h9⟩
    have hsp : a.spot = none := by
      obtain ⟨v, r, rfl⟩ := List.exists_cons_of_ne_nil hz
      have h1 : 0 < (c v).length := by rw [h.len]; exact h0
      obtain ⟨u, h2, _⟩ := at_ 0 v 0 _ rfl (List.getElem?_eq_getElem h1)
      have := cell_spot h2
      simpa [Addr.add] using this
    obtain ⟨b, off, sp⟩ := a
    simp only at hsp
    subst hsp
    have hadd : ∀ i j : Nat, ((⟨b, off, none⟩ : Addr).add (i * n)).add j = ⟨b, off + i * n + j, none⟩ := fun i j => by
      rw [Addr.add_none, Addr.add_none]
    have hml : (l.map c).length = l.length := List.length_map _
    rw [← hml]
    refine .sl n (l.map c) b off cap (fun i j => (w.cell? ⟨b, off + i * n + j, none⟩).getD undef) h0 (fun i x hx => ?_) (by rw [hml]; omega) (fun i x j p hx hj => ?_) (fun i x j p hx hj => ?_)
    · rw [List.getElem?_map, Option.map_eq_some_iff] at hx
      obtain ⟨v, _, rfl⟩ := hx; exact h.len v
    · rw [List.getElem?_map, Option.map_eq_some_iff] at hx
      obtain ⟨v, hi, rfl⟩ := hx
      obtain ⟨u, h2, _⟩ := at_ i v j p hi hj
      rw [hadd] at h2
      show w.cell? _ = _
      rw [h2]; rfl
    · rw [List.getElem?_map, Option.map_eq_some_iff] at hx
      obtain ⟨v, hi, rfl⟩ := hx
      obtain ⟨u, h2, h3⟩ := at_ i v j p hi hj
      rw [hadd] at h2
      rw [h2]; exact h3
theorem OpensV.slice {α : Type} {n : Nat} {c : α → List V} {e : TypeId} {ok : α → Prop} (h : OpensV n c P e ok) (h0 : 0 < n) (hu : P.underlying t = some (.slice e)) (hc : P.cellsOf t = 1) : OpensV 1 (fun l : List α => [.sl n (l.map c)]) P t (fun l => l.length ≤ maxLen ∧ ∀ v ∈ l, ok v) :=
  ⟨hc, fun _ => rfl, fun hx => by
    obtain ⟨l, A, cap, rfl, h2, h3, h4, h5⟩ := h.row h0 hu hx
    exact ⟨l, .one h2, Nat.le_trans h3 h4, h5⟩⟩
/-- an argument that is a slice -/
theorem OpensV.arg {α : Type} {n : Nat} {c : α → List V} {e : TypeId} {ok : α → Prop} (h : OpensV n c P e ok) (h0 : 0 < n) (hu : P.underlying t = some (.slice e))
    {H : Type} {enc : TypeId × Value → H} {w : World} {r : Reach} {base b0 : Nat} {spare : Nat → Bool} {held : Bool} {v : Value} {x : DataW H} {ps : List MemPlace}
    (hv : Value.okWide P w r b0 t v) (hx : DataW.Trod enc P w base spare held t v x ps) : ∃ l : List α, Sh (cel w) (.sl n (l.map c)) v ∧ l.length ≤ maxLen ∧ ∀ v ∈ l, ok v := by
  obtain ⟨a, len, cap, rfl⟩ := Go.WideShapes.okWide_slice hu hv
  obtain ⟨fuel, hf⟩ := hx
  have hf' : DataW.trod enc P w base spare held fuel t [.slice a len cap] = some (x, ps) := hf
  obtain ⟨l, A, cp, h1, h2, h3, h4, h5⟩ := h.row h0 hu hf'
  cases h1
  exact ⟨l, h2, Nat.le_trans h3 h4, h5⟩
/-- an argument that is a struct -/
theorem OpensV.agg {α : Type} {n : Nat} {c : α → List V} {ok : α → Prop} (h : OpensV n c P t ok) {fs : Array Field} (hu : P.underlying t = some (.struct fs))
    {H : Type} {enc : TypeId × Value → H} {w : World} {r : Reach} {base b0 : Nat} {spare : Nat → Bool} {held : Bool} {v : Value} {x : DataW H} {ps : List MemPlace}
    (hv : Value.okWide P w r b0 t v) (hx : DataW.Trod enc P w base spare held t v x ps) : ∃ u cs, v = .agg ⟨cs⟩ ∧ CellsW w (c u) cs ∧ ok u := by
  obtain ⟨cs, rfl, _⟩ := Go.WideShapes.okWide_struct hu hv
  obtain ⟨fuel, hf⟩ := hx
  obtain ⟨u, h1, h2⟩ := h.opens hf
  exact ⟨u, cs.toList, rfl, h1, h2⟩
end
/-- what nothing owns -/
def G0 : Gh := { own := fun _ => ⟨none, none⟩, blk := fun _ => 0, cap := fun _ => 0, isnil := fun _ => false }
theorem sh0 {w : World} {p : V} {v : Value} (h : Sh (cel w) p v) : Sh (stab G0 w) p v := h.mono fun b o c hc => ⟨fun l hl => (by cases hl), hc⟩
theorem ra0 {w : World} {O : Tb} {p : V} {v : Value} (h : Sh (cel w) p v) : RA G0 w O p v := .cell _ _ (.sh _ _ (sh0 h))
theorem raAgg {w : World} {O : Tb} {l : List V} {cs : List Value} (h : CellsW w l cs) : RA G0 w O (.agg l) (.agg ⟨cs⟩) :=
  .agg _ _ ⟨by simpa using h.1, fun j p hj => by obtain ⟨u, h1, h2⟩ := h.2 j p hj; exact ⟨u, by simpa using h1, .sh _ _ (sh0 h2)⟩⟩
/-- pair by pair -/
inductive Each (R : V → Value → Prop) : List V → List Value → Prop
  | nil : Each R [] []
  | cons {p v ps vs} (h : R p v) (k : Each R ps vs) : Each R (p :: ps) (v :: vs)
theorem cellsOf {R : V → Value → Prop} : ∀ {ps : List V} {vs : List Value}, Each R ps vs → Cells R ps ⟨vs⟩
  | [], [], _ => ⟨rfl, fun j p hj => by simp at hj⟩
  | p :: ps, v :: vs, .cons h1 h2 => by
    have ih := cellsOf h2
    refine ⟨by have := ih.1; simp at this ⊢; omega, fun j q hj => ?_⟩
    cases j with
    | zero => simp at hj; subst hj; exact ⟨v, rfl, h1⟩
    | succ j => obtain ⟨c, h3, h4⟩ := ih.2 j q (by simpa using hj); exact ⟨c, by simpa using h3, h4⟩
/-- a law's call -/
theorem law_calls {P : Program} [Env P] {f : FuncId} {args : List V} {vs : List Value} {w : World} (h : Good P f args [] [.bool true] []) (hc : Each (RA G0 w (tbl [])) args vs) (hn : Env.ng P ≤ w.heap.size) (hz : Env.Z P w) :
    Calls P f ⟨vs⟩ w fun e w' => e = .returned (.bool true) ∧ Below w.heap.size w w' :=
  (h.run ⟨vs⟩ w G0 (cellsOf hc) (fun k o hk => by simp at hk) (fun k hk => ⟨by omega, rfl⟩) hz).mono fun e w' hh => by
    obtain ⟨rv, G', h1, h2, _, h3⟩ := hh
    refine ⟨?_, ⟨h3.sys, h3.tape, h3.output, h3.size, fun k hk => (h3.im k hk rfl).2⟩⟩
    rw [h1]
    cases (show RA G' w' (tbl []) (.bool true) rv from h2).bool_eq
    rfl
end Go.PV
namespace Go.PV
open Go Go.RowKit Go.Proofs
/-! what is known of arguments of these types -/
def ok9 : List UInt8 → Prop := fun s : List UInt8 => s.length ≤ maxLen
abbrev c9 : List UInt8 → List V := fun s => [.str s]
theorem o9 : OpensV 1 c9 Tryz.prog 9 ok9 := OpensV.string Tryz.underlying9 (by kernel_rfl)
def ok3 : Int → Prop := fun n : Int => (Lit.int .i64 n).wf = true
abbrev c3 : Int → List V := fun n => [.int .i64 n]
theorem o3 : OpensV 1 c3 Tryz.prog 3 ok3 := OpensV.int Tryz.underlying3 (by kernel_rfl)
theorem t129 : OpensV 3 (fun v : Int × Int × List UInt8 => c3 v.1 ++ (c3 v.2.1 ++ (c9 v.2.2))) Tryz.prog 129 (fun v => ok3 v.1 ∧ ok3 v.2.1 ∧ ok9 v.2.2) := by
  refine OpensV.struct Tryz.underlying129 (by kernel_rfl) ?_
  refine OpensVs.cons (n := 1) (m := 2) (c := c3) (d := fun w : Int × List UInt8 => c3 w.1 ++ (c9 w.2)) (ok := ok3) (ok' := fun w : Int × List UInt8 => ok3 w.1 ∧ ok9 w.2) rfl o3 ?_
  refine OpensVs.cons (n := 1) (m := 1) (c := c3) (d := fun w : List UInt8 => c9 w) (ok := ok3) (ok' := fun w : List UInt8 => ok9 w) rfl o3 ?_
  exact OpensVs.one (c := c9) (ok := ok9) rfl o9
def ok129 : Val → Prop := fun x => let v := ((fun v => (v.k, v.n, v.s) : Val → (Int × Int × List UInt8))) x; ok3 v.1 ∧ ok3 v.2.1 ∧ ok9 v.2.2
abbrev c129 : Val → List V := fun x => let v := ((fun v => (v.k, v.n, v.s) : Val → (Int × Int × List UInt8))) x; c3 v.1 ++ (c3 v.2.1 ++ (c9 v.2.2))
theorem o129 : OpensV 3 c129 Tryz.prog 129 ok129 := OpensV.iso (f := (fun v => (v.k, v.n, v.s) : Val → (Int × Int × List UInt8))) ((fun a => ⟨a.1, a.2.1, a.2.2⟩ : (Int × Int × List UInt8) → Val)) (fun _ => rfl) t129
theorem t131 : OpensV 4 (fun v : List UInt8 × Val => c9 v.1 ++ (c129 v.2)) Tryz.prog 131 (fun v => ok9 v.1 ∧ ok129 v.2) := by
  refine OpensV.struct Tryz.underlying131 (by kernel_rfl) ?_
  refine OpensVs.cons (n := 1) (m := 3) (c := c9) (d := fun w : Val => c129 w) (ok := ok9) (ok' := fun w : Val => ok129 w) rfl o9 ?_
  exact OpensVs.one (c := c129) (ok := ok129) rfl o129
def ok131 : Trm → Prop := fun x => let v := ((fun v => (v.v, v.x) : Trm → (List UInt8 × Val))) x; ok9 v.1 ∧ ok129 v.2
abbrev c131 : Trm → List V := fun x => let v := ((fun v => (v.v, v.x) : Trm → (List UInt8 × Val))) x; c9 v.1 ++ (c129 v.2)
theorem o131 : OpensV 4 c131 Tryz.prog 131 ok131 := OpensV.iso (f := (fun v => (v.v, v.x) : Trm → (List UInt8 × Val))) ((fun a => ⟨a.1, a.2⟩ : (List UInt8 × Val) → Trm)) (fun _ => rfl) t131
def ok46 : List (Trm) → Prop := fun l => l.length ≤ maxLen ∧ ∀ v ∈ l, ok131 v
abbrev c46 : List (Trm) → List V := fun l => [.sl 4 (l.map c131)]
theorem o46 : OpensV 1 c46 Tryz.prog 46 ok46 := OpensV.slice o131 (by decide) Tryz.underlying46 (by kernel_rfl)
theorem t48 : OpensV 2 (fun v : List UInt8 × List (Trm) => c9 v.1 ++ (c46 v.2)) Tryz.prog 48 (fun v => ok9 v.1 ∧ ok46 v.2) := by
  refine OpensV.struct Tryz.underlying48 (by kernel_rfl) ?_
  refine OpensVs.cons (n := 1) (m := 1) (c := c9) (d := fun w : List (Trm) => c46 w) (ok := ok9) (ok' := fun w : List (Trm) => ok46 w) rfl o9 ?_
  exact OpensVs.one (c := c46) (ok := ok46) rfl o46
def ok48 : Atm → Prop := fun x => let v := ((fun v => (v.n, v.a) : Atm → (List UInt8 × List (Trm)))) x; ok9 v.1 ∧ ok46 v.2
abbrev c48 : Atm → List V := fun x => let v := ((fun v => (v.n, v.a) : Atm → (List UInt8 × List (Trm)))) x; c9 v.1 ++ (c46 v.2)
theorem o48 : OpensV 2 c48 Tryz.prog 48 ok48 := OpensV.iso (f := (fun v => (v.n, v.a) : Atm → (List UInt8 × List (Trm)))) ((fun a => ⟨a.1, a.2⟩ : (List UInt8 × List (Trm)) → Atm)) (fun _ => rfl) t48
theorem t210 : OpensV 5 (fun v : Int × List UInt8 × Val => c3 v.1 ++ (c9 v.2.1 ++ (c129 v.2.2))) Tryz.prog 210 (fun v => ok3 v.1 ∧ ok9 v.2.1 ∧ ok129 v.2.2) := by
  refine OpensV.struct Tryz.underlying210 (by kernel_rfl) ?_
  refine OpensVs.cons (n := 1) (m := 4) (c := c3) (d := fun w : List UInt8 × Val => c9 w.1 ++ (c129 w.2)) (ok := ok3) (ok' := fun w : List UInt8 × Val => ok9 w.1 ∧ ok129 w.2) rfl o3 ?_
  refine OpensVs.cons (n := 1) (m := 3) (c := c9) (d := fun w : Val => c129 w) (ok := ok9) (ok' := fun w : Val => ok129 w) rfl o9 ?_
  exact OpensVs.one (c := c129) (ok := ok129) rfl o129
def ok210 : Stp → Prop := fun x => let v := ((fun v => (v.k, v.v, v.x) : Stp → (Int × List UInt8 × Val))) x; ok3 v.1 ∧ ok9 v.2.1 ∧ ok129 v.2.2
abbrev c210 : Stp → List V := fun x => let v := ((fun v => (v.k, v.v, v.x) : Stp → (Int × List UInt8 × Val))) x; c3 v.1 ++ (c9 v.2.1 ++ (c129 v.2.2))
theorem o210 : OpensV 5 c210 Tryz.prog 210 ok210 := OpensV.iso (f := (fun v => (v.k, v.v, v.x) : Stp → (Int × List UInt8 × Val))) ((fun a => ⟨a.1, a.2.1, a.2.2⟩ : (Int × List UInt8 × Val) → Stp)) (fun _ => rfl) t210
def ok93 : List (Stp) → Prop := fun l => l.length ≤ maxLen ∧ ∀ v ∈ l, ok210 v
abbrev c93 : List (Stp) → List V := fun l => [.sl 5 (l.map c210)]
theorem o93 : OpensV 1 c93 Tryz.prog 93 ok93 := OpensV.slice o210 (by decide) Tryz.underlying93 (by kernel_rfl)
theorem t95 : OpensV 6 (fun v : Int × Atm × Int × List (Stp) × List (Stp) => c3 v.1 ++ (c48 v.2.1 ++ (c3 v.2.2.1 ++ (c93 v.2.2.2.1 ++ (c93 v.2.2.2.2))))) Tryz.prog 95 (fun v => ok3 v.1 ∧ ok48 v.2.1 ∧ ok3 v.2.2.1 ∧ ok93 v.2.2.2.1 ∧ ok93 v.2.2.2.2) := by
  refine OpensV.struct Tryz.underlying95 (by kernel_rfl) ?_
  refine OpensVs.cons (n := 1) (m := 5) (c := c3) (d := fun w : Atm × Int × List (Stp) × List (Stp) => c48 w.1 ++ (c3 w.2.1 ++ (c93 w.2.2.1 ++ (c93 w.2.2.2)))) (ok := ok3) (ok' := fun w : Atm × Int × List (Stp) × List (Stp) => ok48 w.1 ∧ ok3 w.2.1 ∧ ok93 w.2.2.1 ∧ ok93 w.2.2.2) rfl o3 ?_
  refine OpensVs.cons (n := 2) (m := 3) (c := c48) (d := fun w : Int × List (Stp) × List (Stp) => c3 w.1 ++ (c93 w.2.1 ++ (c93 w.2.2))) (ok := ok48) (ok' := fun w : Int × List (Stp) × List (Stp) => ok3 w.1 ∧ ok93 w.2.1 ∧ ok93 w.2.2) rfl o48 ?_
  refine OpensVs.cons (n := 1) (m := 2) (c := c3) (d := fun w : List (Stp) × List (Stp) => c93 w.1 ++ (c93 w.2)) (ok := ok3) (ok' := fun w : List (Stp) × List (Stp) => ok93 w.1 ∧ ok93 w.2) rfl o3 ?_
  refine OpensVs.cons (n := 1) (m := 1) (c := c93) (d := fun w : List (Stp) => c93 w) (ok := ok93) (ok' := fun w : List (Stp) => ok93 w) rfl o93 ?_
  exact OpensVs.one (c := c93) (ok := ok93) rfl o93
def ok95 : Cnd → Prop := fun x => let v := ((fun v => (v.k, v.a, v.h, v.l, v.r) : Cnd → (Int × Atm × Int × List (Stp) × List (Stp)))) x; ok3 v.1 ∧ ok48 v.2.1 ∧ ok3 v.2.2.1 ∧ ok93 v.2.2.2.1 ∧ ok93 v.2.2.2.2
abbrev c95 : Cnd → List V := fun x => let v := ((fun v => (v.k, v.a, v.h, v.l, v.r) : Cnd → (Int × Atm × Int × List (Stp) × List (Stp)))) x; c3 v.1 ++ (c48 v.2.1 ++ (c3 v.2.2.1 ++ (c93 v.2.2.2.1 ++ (c93 v.2.2.2.2))))
theorem o95 : OpensV 6 c95 Tryz.prog 95 ok95 := OpensV.iso (f := (fun v => (v.k, v.a, v.h, v.l, v.r) : Cnd → (Int × Atm × Int × List (Stp) × List (Stp)))) ((fun a => ⟨a.1, a.2.1, a.2.2.1, a.2.2.2.1, a.2.2.2.2⟩ : (Int × Atm × Int × List (Stp) × List (Stp)) → Cnd)) (fun _ => rfl) t95
def ok77 : List (Cnd) → Prop := fun l => l.length ≤ maxLen ∧ ∀ v ∈ l, ok95 v
abbrev c77 : List (Cnd) → List V := fun l => [.sl 6 (l.map c95)]
theorem o77 : OpensV 1 c77 Tryz.prog 77 ok77 := OpensV.slice o95 (by decide) Tryz.underlying77 (by kernel_rfl)
def ok96 : List (List (Stp)) → Prop := fun l => l.length ≤ maxLen ∧ ∀ v ∈ l, ok93 v
abbrev c96 : List (List (Stp)) → List V := fun l => [.sl 1 (l.map c93)]
theorem o96 : OpensV 1 c96 Tryz.prog 96 ok96 := OpensV.slice o93 (by decide) Tryz.underlying96 (by kernel_rfl)
theorem t98 : OpensV 4 (fun v : Int × List UInt8 × List (List (Stp)) × Int => c3 v.1 ++ (c9 v.2.1 ++ (c96 v.2.2.1 ++ (c3 v.2.2.2)))) Tryz.prog 98 (fun v => ok3 v.1 ∧ ok9 v.2.1 ∧ ok96 v.2.2.1 ∧ ok3 v.2.2.2) := by
  refine OpensV.struct Tryz.underlying98 (by kernel_rfl) ?_
  refine OpensVs.cons (n := 1) (m := 3) (c := c3) (d := fun w : List UInt8 × List (List (Stp)) × Int => c9 w.1 ++ (c96 w.2.1 ++ (c3 w.2.2))) (ok := ok3) (ok' := fun w : List UInt8 × List (List (Stp)) × Int => ok9 w.1 ∧ ok96 w.2.1 ∧ ok3 w.2.2) rfl o3 ?_
  refine OpensVs.cons (n := 1) (m := 2) (c := c9) (d := fun w : List (List (Stp)) × Int => c96 w.1 ++ (c3 w.2)) (ok := ok9) (ok' := fun w : List (List (Stp)) × Int => ok96 w.1 ∧ ok3 w.2) rfl o9 ?_
  refine OpensVs.cons (n := 1) (m := 1) (c := c96) (d := fun w : Int => c3 w) (ok := ok96) (ok' := fun w : Int => ok3 w) rfl o96 ?_
  exact OpensVs.one (c := c3) (ok := ok3) rfl o3
def ok98 : Act → Prop := fun x => let v := ((fun v => (v.k, v.n, v.a, v.w) : Act → (Int × List UInt8 × List (List (Stp)) × Int))) x; ok3 v.1 ∧ ok9 v.2.1 ∧ ok96 v.2.2.1 ∧ ok3 v.2.2.2
abbrev c98 : Act → List V := fun x => let v := ((fun v => (v.k, v.n, v.a, v.w) : Act → (Int × List UInt8 × List (List (Stp)) × Int))) x; c3 v.1 ++ (c9 v.2.1 ++ (c96 v.2.2.1 ++ (c3 v.2.2.2)))
theorem o98 : OpensV 4 c98 Tryz.prog 98 ok98 := OpensV.iso (f := (fun v => (v.k, v.n, v.a, v.w) : Act → (Int × List UInt8 × List (List (Stp)) × Int))) ((fun a => ⟨a.1, a.2.1, a.2.2.1, a.2.2.2⟩ : (Int × List UInt8 × List (List (Stp)) × Int) → Act)) (fun _ => rfl) t98
def ok78 : List (Act) → Prop := fun l => l.length ≤ maxLen ∧ ∀ v ∈ l, ok98 v
abbrev c78 : List (Act) → List V := fun l => [.sl 4 (l.map c98)]
theorem o78 : OpensV 1 c78 Tryz.prog 78 ok78 := OpensV.slice o98 (by decide) Tryz.underlying78 (by kernel_rfl)
theorem t80 : OpensV 4 (fun v : List UInt8 × Int × List (Cnd) × List (Act) => c9 v.1 ++ (c3 v.2.1 ++ (c77 v.2.2.1 ++ (c78 v.2.2.2)))) Tryz.prog 80 (fun v => ok9 v.1 ∧ ok3 v.2.1 ∧ ok77 v.2.2.1 ∧ ok78 v.2.2.2) := by
  refine OpensV.struct Tryz.underlying80 (by kernel_rfl) ?_
  refine OpensVs.cons (n := 1) (m := 3) (c := c9) (d := fun w : Int × List (Cnd) × List (Act) => c3 w.1 ++ (c77 w.2.1 ++ (c78 w.2.2))) (ok := ok9) (ok' := fun w : Int × List (Cnd) × List (Act) => ok3 w.1 ∧ ok77 w.2.1 ∧ ok78 w.2.2) rfl o9 ?_
  refine OpensVs.cons (n := 1) (m := 2) (c := c3) (d := fun w : List (Cnd) × List (Act) => c77 w.1 ++ (c78 w.2)) (ok := ok3) (ok' := fun w : List (Cnd) × List (Act) => ok77 w.1 ∧ ok78 w.2) rfl o3 ?_
  refine OpensVs.cons (n := 1) (m := 1) (c := c77) (d := fun w : List (Act) => c78 w) (ok := ok77) (ok' := fun w : List (Act) => ok78 w) rfl o77 ?_
  exact OpensVs.one (c := c78) (ok := ok78) rfl o78
def ok80 : Rul → Prop := fun x => let v := ((fun v => (v.n, v.p, v.c, v.a) : Rul → (List UInt8 × Int × List (Cnd) × List (Act)))) x; ok9 v.1 ∧ ok3 v.2.1 ∧ ok77 v.2.2.1 ∧ ok78 v.2.2.2
abbrev c80 : Rul → List V := fun x => let v := ((fun v => (v.n, v.p, v.c, v.a) : Rul → (List UInt8 × Int × List (Cnd) × List (Act)))) x; c9 v.1 ++ (c3 v.2.1 ++ (c77 v.2.2.1 ++ (c78 v.2.2.2)))
theorem o80 : OpensV 4 c80 Tryz.prog 80 ok80 := OpensV.iso (f := (fun v => (v.n, v.p, v.c, v.a) : Rul → (List UInt8 × Int × List (Cnd) × List (Act)))) ((fun a => ⟨a.1, a.2.1, a.2.2.1, a.2.2.2⟩ : (List UInt8 × Int × List (Cnd) × List (Act)) → Rul)) (fun _ => rfl) t80
theorem t29 : OpensV 2 (fun v : Int × Int => c3 v.1 ++ (c3 v.2)) Tryz.prog 29 (fun v => ok3 v.1 ∧ ok3 v.2) := by
  refine OpensV.struct Tryz.underlying29 (by kernel_rfl) ?_
  refine OpensVs.cons (n := 1) (m := 1) (c := c3) (d := fun w : Int => c3 w) (ok := ok3) (ok' := fun w : Int => ok3 w) rfl o3 ?_
  exact OpensVs.one (c := c3) (ok := ok3) rfl o3
def ok29 : Int × Int → Prop := fun v => ok3 v.1 ∧ ok3 v.2
abbrev c29 : Int × Int → List V := fun v => c3 v.1 ++ (c3 v.2)
theorem o29 : OpensV 2 c29 Tryz.prog 29 ok29 := t29
theorem t110 : OpensV 4 (fun v : Int × List UInt8 × (Int × Int) => c3 v.1 ++ (c9 v.2.1 ++ (c29 v.2.2))) Tryz.prog 110 (fun v => ok3 v.1 ∧ ok9 v.2.1 ∧ ok29 v.2.2) := by
  refine OpensV.struct Tryz.underlying110 (by kernel_rfl) ?_
  refine OpensVs.cons (n := 1) (m := 3) (c := c3) (d := fun w : List UInt8 × (Int × Int) => c9 w.1 ++ (c29 w.2)) (ok := ok3) (ok' := fun w : List UInt8 × (Int × Int) => ok9 w.1 ∧ ok29 w.2) rfl o3 ?_
  refine OpensVs.cons (n := 1) (m := 2) (c := c9) (d := fun w : (Int × Int) => c29 w) (ok := ok9) (ok' := fun w : (Int × Int) => ok29 w) rfl o9 ?_
  exact OpensVs.one (c := c29) (ok := ok29) rfl o29
def ok110 : Tok → Prop := fun x => let v := ((fun v => (v.k, v.t, v.p) : Tok → (Int × List UInt8 × (Int × Int)))) x; ok3 v.1 ∧ ok9 v.2.1 ∧ ok29 v.2.2
abbrev c110 : Tok → List V := fun x => let v := ((fun v => (v.k, v.t, v.p) : Tok → (Int × List UInt8 × (Int × Int)))) x; c3 v.1 ++ (c9 v.2.1 ++ (c29 v.2.2))
theorem o110 : OpensV 4 c110 Tryz.prog 110 ok110 := OpensV.iso (f := (fun v => (v.k, v.t, v.p) : Tok → (Int × List UInt8 × (Int × Int)))) ((fun a => ⟨a.1, a.2.1, a.2.2⟩ : (Int × List UInt8 × (Int × Int)) → Tok)) (fun _ => rfl) t110
end Go.PV
namespace Go.PV
open Go
/-! a row's closed facts, one by one -/
theorem joined_of {P : Program} {f : FuncId} {fn : Func} {s : ChangeSpec} {c : OpenClaim} (h1 : c.wf (OpenSpec.ofChange s) = true) (h2 : laidOutB P = true) (h3 : mapsRowed P = true) (h4 : namedTie P c.named s.vars = true)
    (h5 : (P.stops == []) = true) (h6 : (P.stopKnobs == []) = true) (h7 : (c.inPlace == P.inPlace f) = true) (h8 : (c.unfollowed == P.unfollowed f) = true) (h9 : (c.recurses == P.recurses f) = true) (h10 : (c.named == P.varsNamed f) = true)
    (h11 : (c.plainKeys == P.plainKeys) = true) (h12 : P.stopsHeard = true) (h13 : P.mayEnter = true) (h14 : (c.lifted == P.liftsFinal) = true) (h15 : (P.make == some c.make) = true)
    (h16 : (fn.params.all (P.readableRec ·) && (c.stops == []) && (c.knobs == []) &&
      (c.maps == (fn.params.toList ++ s.plain.varTypes P).any (P.mapsRec ·)) && (c.ifaces == (fn.params.toList ++ s.plain.varTypes P).any (P.ifacesRec ·)) && (c.mapsOut == P.mapsAmong fn.resultTypes.toList) &&
      (c.loops == (fn.params.toList ++ s.plain.varTypes P).any (P.loopsFrom ·)) && (c.wideKeys == (fn.params.toList ++ s.plain.varTypes P ++ fn.resultTypes.toList).any (P.wideKeysFrom ·)) &&
      s.vars.all (P.varReadable ·) && fn.resultTypes.all (fun t => P.readableRec t && decide (t < P.types.size)) && (c.ifacesOut == fn.resultTypes.toList.any (P.ifacesRec ·)) && (c.loopsOut == fn.resultTypes.toList.any (P.loopsFrom ·)) && c.shortTexts.isNone &&
      (c.kinds == (if c.domain.isEmpty then [] else fn.params.toList.map fun t => match P.underlying t with | some (.int k) => some k | _ => none)) && (c.pinned == c.pinnedBy) &&
      (c.veiled == (fn.params.toList ++ s.plain.varTypes P ++ fn.resultTypes.toList).any (P.veiledRec ·)) && c.veiledFits P fn.params.toList (fn.params.toList ++ s.plain.varTypes P ++ fn.resultTypes.toList)) = true) : joinedFacts P f fn s c = true := by
  unfold joinedFacts
  rw [h1, h2, h3, h4, h5, h6, h7, h8, h9, h10, h11, h12, h13, h14, h15]
  simp only [Bool.true_and, Bool.and_true]
  exact h16
end Go.PV
namespace Go.PV
open Go Go.RowKit Go.Lib Go.Proofs Go.Proofs.YtfdopmapaaagoaaGreatDoor
theorem pow_datum : (Rows.laid_internal_strconv_uint64pow10 : DataW Unit) = Lib.tabData .u64 Lib.pow10Tab := by kernel_rfl
theorem laidT_of {r : List (String × DataW Unit)} {W : World} (h : laidMet Tryz.prog (("internal/strconv.uint64pow10", Rows.laid_internal_strconv_uint64pow10) :: r) W) : Lib.TabIs Tryz.prog W "internal/strconv.uint64pow10" .u64 Lib.pow10Tab := by
  rw [pow_datum] at h
  exact tabIs_of_head (g := 1) (by kernel_rfl) (by kernel_rfl) Tryz.underlying285 Tryz.underlying266 (by kernel_rfl) (by kernel_rfl) h
theorem star_es : "*" ++ "errors.errorString" = "*errors.errorString" := by decide
theorem row_es (u : TypeId) (h : Tryz.prog.typeName? 3 u = some "*errors.errorString") : u = 303 :=
  typeName_ptr_named (nm := "errors.errorString") (by rw [star_es]; kernel_rfl) (by kernel_rfl) (by decide) u (by rw [star_es]; exact h)
theorem globRan_of {r : List (String × DataW Unit)} {W : World} (h : laidMet Tryz.prog (("strconv.ErrRange", Rows.laid_strconv_ErrRange) :: r) W) : ∃ tp p, W.var? Tryz.prog "strconv.ErrRange" = some #[.iface tp p] := by
  obtain ⟨a, s, hv, _⟩ := laid_sentinel (g := 3) h (by kernel_rfl) (by kernel_rfl) Tryz.underlying217 row_es Tryz.underlying303 Tryz.underlying305 rfl rfl Tryz.underlying9 (by kernel_rfl) (by kernel_rfl)
  exact ⟨_, _, hv⟩
theorem globSyn_of {r : List (String × DataW Unit)} {W : World} (h : laidMet Tryz.prog (("strconv.ErrSyntax", Rows.laid_strconv_ErrSyntax) :: r) W) : ∃ tp p, W.var? Tryz.prog "strconv.ErrSyntax" = some #[.iface tp p] := by
  obtain ⟨a, s, hv, _⟩ := laid_sentinel (g := 2) h (by kernel_rfl) (by kernel_rfl) Tryz.underlying217 row_es Tryz.underlying303 Tryz.underlying305 rfl rfl Tryz.underlying9 (by kernel_rfl) (by kernel_rfl)
  exact ⟨_, _, hv⟩
end Go.PV
