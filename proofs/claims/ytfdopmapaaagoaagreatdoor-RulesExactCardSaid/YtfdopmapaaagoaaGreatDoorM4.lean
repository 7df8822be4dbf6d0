/- Part of the proof. -/
import Derived.Test.YtfdopmapaaagoaaGreatDoorM3
set_option linter.unusedVariables false
set_option linter.unusedSimpArgs false
namespace Go.PV
open Go
/-! atoms: what is written is read; what is read is right -/
theorem tk_term {t : Trm} (h : termOk t = true) : Tk (termK t) := by
  unfold termOk at h
  unfold termK
  by_cases hv : t.v = []
  · rw [if_pos hv] at h ⊢
    rcases check_cases h with ⟨h1, h2, _, h4⟩ | ⟨h1, _, h3, h4⟩ | ⟨h1, _, h3, h4⟩ <;> rw [h4]
    · rw [if_pos h1]; exact tk_num (by rw [refNum_itoa h2]; rfl)
    · rw [if_neg (by omega), if_pos h1]; rw [symbol_word] at h3; exact tk_word (large := false) h3
    · rw [if_neg (by omega), if_neg (by omega)]; exact tk_quoted h3
  · rw [if_neg hv] at h ⊢
    rw [Bool.and_eq_true] at h
    exact tk_word (large := true) h.1
theorem value_term {t : Trm} (h : termOk t = true) : valueS (termK t) = some t := by
  unfold termOk at h
  obtain ⟨v, k, n, s⟩ := t
  unfold termK
  dsimp only at h ⊢
  by_cases hv : v = []
  · subst hv
    rw [if_pos rfl] at h ⊢
    rcases check_cases h with ⟨h1, h2, h3, h4⟩ | ⟨h1, h2, h3, h4⟩ | ⟨h1, h2, h3, h4⟩ <;> rw [h4] <;> dsimp only at h1 h2 h3 h4 ⊢
    · subst h1; subst h3; simp only [if_true]
      unfold valueS; rw [if_neg (by dsimp only; omega), if_pos rfl, number_itoa h2]; rfl
    · subst h1; subst h2
      unfold valueS; rw [if_neg (by dsimp only; omega), if_neg (by dsimp only; omega), parse_sym h3]; simp
    · subst h1; subst h2
      unfold valueS; rw [if_neg (by dsimp only; omega), if_neg (by dsimp only; omega), parse_quoted h3]; simp
  · rw [if_neg hv] at h ⊢
    rw [Bool.and_eq_true, decide_eq_true_eq] at h
    unfold valueS; rw [if_pos rfl, if_pos h.1, ← h.2]
theorem num_check {s : Bs} {v : Val} (h : numberS s = some v) : checkS v = true ∧ v.k = 1 := by
  rw [number_ref, Option.map_eq_some_iff] at h
  obtain ⟨n, h, rfl⟩ := h
  unfold refNumS at h
  split at h
  · cases h
  · rename_i h1
    have : inR n = true := by
      simp only [Option.some.injEq] at h
      simp only [inR, decide_eq_true_eq]
      have : ¬ 4611686018427387904 < digN (unS s) := fun h => h1 (.inr (.inr h))
      split at h <;> omega
    exact ⟨by simp [checkS, this], rfl⟩
theorem varS_ne {s : Bs} (h : varS s = true) : s ≠ [] := by
  intro e; subst e; simp [varS, refWordS] at h
theorem value_ok {x : KT} {t : Trm} (h : valueS x = some t) : termOk t = true := by
  unfold valueS at h
  split at h
  · split at h
    · rename_i h1
      cases h
      unfold termOk
      rw [if_neg (varS_ne h1)]
      simp [h1]
    · cases h
  · split at h
    · rw [Option.map_eq_some_iff] at h
      obtain ⟨v, h, rfl⟩ := h
      unfold termOk; rw [if_pos rfl]; exact (num_check h).1
    · split at h
      · rename_i v hv
        split at h
        · cases h
          unfold termOk; rw [if_pos rfl]; exact (parse_some hv).1
        · cases h
      · cases h
/-! what may stand behind -/
def stopC (c : UInt8) : Bool := !letterB c && decide (c.toNat ≠ 61 ∧ c.toNat ≠ 62)
def stopH : Bs → Bool
  | [] => true
  | c :: _ => stopC c
theorem okEnd_stop {t : KT} {r : Bs} (h : stopH r = true) : okEnd t r = true := by
  cases r with
  | nil => rfl
  | cons c r =>
    simp only [stopH, stopC, Bool.and_eq_true, Bool.not_eq_true', decide_eq_true_eq] at h
    have hd : digitB c = false := by have := h.1; simp [letterB] at this; exact this.1.2
    rw [okEnd]
    split
    · simp [h.1]
    · split
      · simp [hd]
      · split
        · rfl
        · simp [h.2, hd]
theorem okEnd_sign {x : UInt8} (hx : x ≠ 45) {c : UInt8} {r : Bs} (h : c.toNat ≠ 61 ∧ c.toNat ≠ 62) : okEnd (5, [x]) (c :: r) = true := by
  rw [okEnd, if_neg (by dsimp only; omega), if_neg (by dsimp only; omega), if_neg (by dsimp only; omega)]
  simp [h, hx]
theorem tk_head {t : KT} (h : Tk t) (h5 : t.1 ≠ 5) : ∃ c r, t.2 = c :: r ∧ c.toNat ≠ 61 ∧ c.toNat ≠ 62 := by
  obtain ⟨k, t⟩ := t
  dsimp only at h5 ⊢
  have h1 := tk_pos h
  unfold Tk at h
  dsimp only at h h1
  cases t with
  | nil => simp at h1
  | cons c r =>
    refine ⟨c, r, rfl, ?_⟩
    by_cases hc : c.toNat = 61 ∨ c.toNat = 62
    · refine absurd ?_ h5
      have e : nextS (c :: r) = (5, signS (c :: r), decide (0 < signS (c :: r))) := by
        rw [nextS, if_neg, if_neg, if_neg (by omega)]
        · simp [digitB, inB]; omega
        · simp [smallB, largeB, inB]; omega
      rw [e] at h
      exact (congrArg Prod.fst h).symm
    · omega
theorem termK_5 (t : Trm) : (termK t).1 ≠ 5 := by
  unfold termK; split
  · dsimp only; split
    · omega
    · split <;> omega
  · dsimp only; omega
theorem tk_1 {x : UInt8} (h : nextS [x] = (5, 1, true)) : Tk (5, [x]) := h
theorem okEnd_head {x : UInt8} (hx : x ≠ 45) {t : KT} (h : Tk t) (h5 : t.1 ≠ 5) (r : Bs) : okEnd (5, [x]) (t.2 ++ r) = true := by
  obtain ⟨c, u, e, hc⟩ := tk_head h h5
  rw [e]; exact okEnd_sign hx hc
theorem nameS_word {s : Bs} (h : nameS s = true) : refWordS false s = true := by unfold nameS at h; rw [Bool.and_eq_true] at h; exact h.1
theorem wov_tail (tail : Bs) (ht : stopH tail = true) : ∀ l : List Trm, l.all termOk = true → WovK tail (tailK l) ∧ stopH (weaveK (tailK l) ++ tail) = true
  | [], _ => ⟨⟨rfl, rfl, okEnd_stop ht, trivial⟩, rfl⟩
  | t :: r, h => by
    rw [List.all_cons, Bool.and_eq_true] at h
    obtain ⟨h1, h2⟩ := wov_tail tail ht r h.2
    refine ⟨⟨rfl, rfl, ?_, rfl, tk_term h.1, okEnd_stop h2, h1⟩, rfl⟩
    rfl
theorem wov_args (tail : Bs) (ht : stopH tail = true) (l : List Trm) (h : l.all termOk = true) : WovK tail (argsK l) ∧ (stopH (weaveK (argsK l) ++ tail) = true) := by
  cases l with
  | nil => exact ⟨trivial, ht⟩
  | cons t r =>
    rw [List.all_cons, Bool.and_eq_true] at h
    obtain ⟨h1, h2⟩ := wov_tail tail ht r h.2
    refine ⟨⟨rfl, rfl, ?_, rfl, tk_term h.1, okEnd_stop h2, h1⟩, rfl⟩
    show okEnd (5, [40]) ([] ++ ((termK t).2 ++ weaveK (tailK r)) ++ tail) = true
    rw [List.nil_append, List.append_assoc]
    exact okEnd_head (by decide) (tk_term h.1) (termK_5 t) _
theorem wov_atom {tail b : Bs} (ht : stopH tail = true) (hb : blk b = true) {a : Atm} (h : atomOk a = true) : WovK tail (atomK b a) := by
  unfold atomOk at h
  rw [Bool.and_eq_true, Bool.and_eq_true] at h
  obtain ⟨h1, h2⟩ := wov_args tail ht a.a h.2
  exact ⟨hb, tk_word (large := false) (nameS_word h.1.1), okEnd_stop h2, h1⟩
/-! reading -/
namespace Rd
def rest (r : Rd) : List KT := (r.l.drop r.i).map kt
def adv (r : Rd) (n : Nat) : Rd := { r with i := r.i + n }
theorem cur_rest (r : Rd) : r.cur = r.rest.head? := by
  unfold cur rest
  rw [List.head?_map, List.head?_drop]
theorem rest_cons {r : Rd} {x : KT} {m : List KT} (h : r.rest = x :: m) : r.cur = some x ∧ r.step.rest = m := by
  refine ⟨by rw [cur_rest, h]; rfl, ?_⟩
  have : r.step.rest = r.rest.tail := by
    unfold rest step
    rw [← List.map_tail, List.tail_drop]
  rw [this, h]; rfl
theorem see_rest {r : Rd} (ho : r.isOpen = true) {x : KT} {m : List KT} (h : r.rest = x :: m) : r.see x.1 x.2 = true := by
  unfold see; rw [ho, (rest_cons h).1]; simp
theorem see_no {r : Rd} {x : KT} (h : r.rest.head? ≠ some x) : r.see x.1 x.2 = false := by
  unfold see; rw [cur_rest]; simp [h]
theorem name_rest {r : Rd} (ho : r.isOpen = true) {s : Bs} {m : List KT} (h : r.rest = (1, s) :: m) (hs : nameS s = true) : r.name = (s, r.step) := by
  unfold name; rw [if_pos ho, (rest_cons h).1]; simp [hs]
theorem term_rest {r : Rd} (ho : r.isOpen = true) {t : Trm} {m : List KT} (h : r.rest = termK t :: m) (ht : termOk t = true) : r.term = (t, r.step) := by
  unfold term; rw [if_pos ho, (rest_cons h).1, Option.bind_some, value_term ht]
theorem want_rest {r : Rd} (ho : r.isOpen = true) {x : KT} {m : List KT} (h : r.rest = x :: m) : r.want x.1 x.2 = r.step := by
  unfold want; rw [if_pos (see_rest ho h)]
theorem args_rest : ∀ (l : List Trm) (f : Nat) (r : Rd) (m : List KT), r.isOpen = true → l.all termOk = true → r.rest = (tailK l).map (·.2) ++ m → l.length ≤ f → (args f r).1 = l ∧ (args f r).2.want 5 [41] = r.adv (tailK l).length
  | [], f, r, m, ho, _, hr, _ => by
    have hs : r.see 5 [44] = false := see_no (x := (5, [44])) (by rw [hr]; simp [tailK])
    have e : args f r = ([], r) := by cases f <;> simp [args, hs]
    rw [e]
    exact ⟨rfl, want_rest ho (x := (5, [41])) (m := m) (by rw [hr]; rfl)⟩
  | t :: l, f, r, m, ho, hk, hr, hf => by
    obtain ⟨f, rfl⟩ : ∃ f', f = f' + 1 := ⟨f - 1, by simp at hf; omega⟩
    rw [List.all_cons, Bool.and_eq_true] at hk
    have hr : r.rest = (5, [44]) :: termK t :: ((tailK l).map (·.2) ++ m) := hr
    have h1 := rest_cons hr
    have h2 := rest_cons h1.2
    have ht := term_rest (r := r.step) ho h1.2 hk.1
    obtain ⟨i1, i2⟩ := args_rest l f r.step.step m ho hk.2 h2.2 (by simp at hf; omega)
    rw [args, if_pos (see_rest ho hr), ht]
    dsimp only
    rw [i1, i2]
    refine ⟨rfl, ?_⟩
    simp only [adv, step, tailK, List.length_cons]
    congr 1; omega
theorem brack_rest {r : Rd} {t : Trm} {l : List Trm} {m : List KT} (ho : r.isOpen = true) (hk : (t :: l).all termOk = true) (hr : r.rest = (argsK (t :: l)).map (·.2) ++ m) : r.brack = (t :: l, r.adv (argsK (t :: l)).length) := by
  rw [List.all_cons, Bool.and_eq_true] at hk
  have hr : r.rest = (5, [40]) :: termK t :: ((tailK l).map (·.2) ++ m) := hr
  have h1 := rest_cons hr
  have h2 := rest_cons h1.2
  have ht := term_rest (r := r.step) ho h1.2 hk.1
  have hlen : ∀ l : List Trm, l.length ≤ (tailK l).length := fun l => by
    induction l with
    | nil => simp
    | cons u l ih => simp only [tailK, List.length_cons]; omega
  have hll : l.length ≤ r.l.length := by
    have e := congrArg List.length hr
    have := hlen l
    simp only [rest, List.length_map, List.length_drop, List.length_cons, List.length_append] at e
    omega
  obtain ⟨i1, i2⟩ := args_rest l r.l.length r.step.step m ho hk.2 h2.2 hll
  unfold brack
  rw [ht]
  dsimp only
  rw [i1, i2]
  simp only [adv, step, argsK, List.length_cons]
  congr 2; omega
/-- an atom's signs are read as it -/
theorem atom_rest {r : Rd} {a : Atm} {b : Bs} {m : List KT} (ho : r.isOpen = true) (hk : atomOk a = true) (hr : r.rest = (atomK b a).map (·.2) ++ m) (hm : a.a = [] → m.head? ≠ some (5, [40])) : r.atom = (a, r.adv (atomK b a).length) := by
  unfold atomOk at hk
  rw [Bool.and_eq_true, Bool.and_eq_true, decide_eq_true_eq] at hk
  obtain ⟨⟨h1, h2⟩, h3⟩ := hk
  have hr : r.rest = (1, a.n) :: ((argsK a.a).map (·.2) ++ m) := hr
  have hc := rest_cons hr
  have hn := name_rest ho hr h1
  obtain ⟨n, l⟩ := a
  dsimp only at *
  unfold atom
  rw [hn]
  dsimp only
  cases l with
  | nil =>
    have hs : r.step.see 5 [40] = false := see_no (x := (5, [40])) (by rw [hc.2]; exact hm rfl)
    rw [hs, if_neg (by simp)]
    rfl
  | cons t l =>
    have hs : r.step.see 5 [40] = true := see_rest (r := r.step) (x := (5, [40])) (m := termK t :: ((tailK l).map (·.2) ++ m)) ho hc.2
    rw [if_pos hs, brack_rest (r := r.step) ho h3 hc.2]
    dsimp only
    rw [List.take_of_length_le h2, if_neg (by omega)]
    simp only [adv, step, atomK, List.length_cons]
    congr 2; omega
/-! what is read is right -/
theorem term_open {r : Rd} (h : r.term.2.isOpen = true) : r.isOpen = true ∧ termOk r.term.1 = true ∧ r.term.2 = r.step ∧ r.i < r.l.length := by
  unfold term at *
  split at h
  · rename_i ho
    rw [if_pos ho]
    split at h
    · rename_i t ht
      rw [Option.bind_eq_some_iff] at ht
      obtain ⟨x, h1, h2⟩ := ht
      exact ⟨ho, value_ok h2, rfl, cur_lt h1⟩
    · simp [fail, isOpen] at h
  · rename_i ho; exact absurd h ho
theorem name_open {r : Rd} (h : r.name.2.isOpen = true) : r.isOpen = true ∧ nameS r.name.1 = true ∧ r.name.2 = r.step ∧ r.i < r.l.length := by
  unfold name at *
  split at h
  · rename_i ho
    rw [if_pos ho]
    split at h
    · rename_i x hx
      split at h
      · rename_i hc
        rw [if_pos hc]
        exact ⟨ho, hc.2, rfl, cur_lt hx⟩
      · simp [fail, isOpen] at h
    · simp [fail, isOpen] at h
  · rename_i ho; exact absurd h ho
theorem want_open {r : Rd} {k : Int} {t : Bs} (h : (r.want k t).isOpen = true) : r.isOpen = true ∧ r.want k t = r.step ∧ r.i < r.l.length := by
  unfold want at *
  split at h
  · rename_i hs
    rw [if_pos hs]
    exact ⟨(see_open hs).1, rfl, cur_lt (see_open hs).2⟩
  · split at h
    · simp [fail, isOpen] at h
    · rename_i ho; exact absurd h ho
theorem args_open : ∀ (f : Nat) (r : Rd), (args f r).2.isOpen = true → r.isOpen = true ∧ (args f r).1.all termOk = true ∧ (args f r).2.l = r.l ∧ r.i ≤ (args f r).2.i ∧ (args f r).2.wrong = r.wrong
  | 0, r, h => ⟨h, rfl, rfl, Nat.le_refl _, rfl⟩
  | f + 1, r, h => by
    rw [args] at *
    split at h
    · rename_i hs
      rw [if_pos hs]
      dsimp only at h ⊢
      obtain ⟨h1, h2, h3, h4, h5⟩ := args_open f _ h
      obtain ⟨k1, k2, k3, k4⟩ := term_open h1
      rw [List.all_cons, k2, h2, h3, h5, k3]
      rw [k3] at h4
      have h4' : r.i + 1 + 1 ≤ (args f r.step.step).2.i := h4
      exact ⟨(see_open hs).1, rfl, rfl, by omega, rfl⟩
    · rename_i hs
      rw [if_neg hs]
      exact ⟨h, rfl, rfl, Nat.le_refl _, rfl⟩
theorem brack_open {r : Rd} (h : r.brack.2.isOpen = true) : r.brack.1.all termOk = true ∧ r.brack.2.l = r.l ∧ r.i < r.brack.2.i ∧ r.brack.2.i ≤ r.l.length ∧ r.brack.2.wrong = r.wrong := by
  unfold brack at *
  dsimp only at h ⊢
  obtain ⟨h1, h2, h3⟩ := want_open h
  obtain ⟨k1, k2, k3, k4, k5⟩ := args_open _ _ h1
  obtain ⟨j1, j2, j3, j4⟩ := term_open k1
  rw [List.all_cons, j2, k2, h2]
  rw [k3, j3] at h3
  rw [j3] at k3 k4 k5
  simp only [step] at *
  rw [j3]
  exact ⟨rfl, k3, by omega, by omega, k5⟩
theorem atom_open {r : Rd} (h : r.atom.2.isOpen = true) : (r.atom.2.wrong = r.wrong → r.wrong = false → atomOk r.atom.1 = true) ∧ r.atom.2.l = r.l ∧ r.i < r.atom.2.i ∧ r.atom.2.i ≤ r.l.length := by
  unfold atom at *
  dsimp only at h ⊢
  split at h
  · rename_i hs
    rw [if_pos hs]
    dsimp only at h ⊢
    have hb : r.name.2.brack.2.isOpen = true := by
      split at h
      · exact h
      · exact h
    obtain ⟨k1, k2, k3, k4, k5⟩ := brack_open hb
    obtain ⟨j1, j2, j3, j4⟩ := name_open (see_open hs).1
    rw [j3] at k1 k2 k3 k4 k5 ⊢
    have k3 : r.i + 1 < r.step.brack.2.i := k3
    have k4 : r.step.brack.2.i ≤ r.l.length := k4
    refine ⟨fun hw h0 => ?_, ?_, ?_, ?_⟩
    · have hl : ¬ 5 < r.step.brack.1.length := fun hl => by rw [if_pos hl] at hw; dsimp only at hw; rw [← hw] at h0; cases h0
      unfold atomOk
      dsimp only
      rw [j2, List.take_of_length_le (by omega), k1]
      simp; omega
    · split <;> exact k2
    · split <;> exact (by first | exact (by omega : _) | (show r.i < r.step.brack.2.i; omega))
    · split <;> exact k4
  · rename_i hs
    rw [if_neg hs]
    dsimp only at h ⊢
    obtain ⟨j1, j2, j3, j4⟩ := name_open h
    rw [j3]
    refine ⟨fun _ _ => ?_, rfl, by simp [step], by simp [step]; omega⟩
    unfold atomOk; simp [j2]
end Rd
theorem endE_0 {r : Rd} (h : r.endE = 0) : r.isOpen = true ∧ r.wrong = false ∧ ∀ a, r.endI a = r.i := by
  unfold Rd.endE at h
  split at h
  · omega
  · rename_i h1
    simp only [Bool.or_eq_true, not_or, Bool.not_eq_true] at h1
    obtain ⟨⟨h1, h2⟩, h3⟩ := h1
    exact ⟨by simp [Rd.isOpen, h1, h2], h3, fun a => by simp [Rd.endI, h1, h2, h3]⟩
/-- what is read of signs is right -/
theorem readA_ok {l : List Tok} {i : Nat} (h : (readA l i).2.2 = 0) : atomOk (readA l i).1 = true ∧ i < (readA l i).2.1 ∧ (readA l i).2.1 ≤ l.length := by
  unfold readA at *
  dsimp only at h ⊢
  obtain ⟨h1, h2, h3⟩ := endE_0 h
  obtain ⟨k1, k2, k3, k4⟩ := Rd.atom_open h1
  rw [if_pos h, h3]
  exact ⟨k1 h2 rfl, k3, k4⟩
/-- an atom's signs, whatever stands behind -/
theorem readA_back {l : List Tok} {i : Nat} {a : Atm} {b : Bs} {m : List KT} (hk : atomOk a = true) (hr : (l.drop i).map kt = (atomK b a).map (·.2) ++ m) (hm : a.a = [] → m.head? ≠ some (5, [40])) : readA l i = (a, i + (atomK b a).length, 0) := by
  have e := Rd.atom_rest (r := rd0 l i) (a := a) (b := b) (m := m) rfl hk hr hm
  unfold readA
  rw [e]; rfl
namespace Rd
theorem term_l (r : Rd) : r.term.2.l = r.l ∧ r.i ≤ r.term.2.i ∧ r.term.2.i ≤ r.i + 1 := by
  unfold term
  split
  · split
    · exact ⟨rfl, Nat.le_succ _, Nat.le_refl _⟩
    · exact ⟨rfl, Nat.le_refl _, Nat.le_succ _⟩
  · exact ⟨rfl, Nat.le_refl _, Nat.le_succ _⟩
theorem name_l (r : Rd) : r.name.2.l = r.l ∧ r.i ≤ r.name.2.i := by
  unfold name
  split
  · split
    · split
      · exact ⟨rfl, Nat.le_succ _⟩
      · exact ⟨rfl, Nat.le_refl _⟩
    · exact ⟨rfl, Nat.le_refl _⟩
  · exact ⟨rfl, Nat.le_refl _⟩
theorem num_l (r : Rd) : r.num.2.l = r.l ∧ r.i ≤ r.num.2.i := by
  unfold num
  split
  · split
    · split
      · exact ⟨rfl, Nat.le_succ _⟩
      · exact ⟨rfl, Nat.le_refl _⟩
    · exact ⟨rfl, Nat.le_refl _⟩
  · exact ⟨rfl, Nat.le_refl _⟩
theorem want_l (r : Rd) (k : Int) (t : Bs) : (r.want k t).l = r.l ∧ r.i ≤ (r.want k t).i := by
  unfold want
  split
  · exact ⟨rfl, Nat.le_succ _⟩
  · split
    · exact ⟨rfl, Nat.le_refl _⟩
    · exact ⟨rfl, Nat.le_refl _⟩
theorem word_l (r : Rd) (k : Int) (t : Bs) : (r.word k t).l = r.l ∧ r.i ≤ (r.word k t).i := by
  unfold word
  split
  · exact ⟨rfl, Nat.le_succ _⟩
  · exact ⟨rfl, Nat.le_refl _⟩
theorem atom_no {r : Rd} (h : r.name.2.see 5 [40] = false) : r.atom = (⟨r.name.1, []⟩, r.name.2) := by
  unfold atom; dsimp only; rw [h]; rfl
theorem atom_yes {r : Rd} (h : r.name.2.see 5 [40] = true) : r.atom = (⟨r.name.1, (r.name.2.step.term.1 :: (args r.name.2.l.length r.name.2.step.term.2).1).take 5⟩,
    if 5 < (args r.name.2.l.length r.name.2.step.term.2).1.length + 1 then { (args r.name.2.l.length r.name.2.step.term.2).2.want 5 [41] with wrong := true } else (args r.name.2.l.length r.name.2.step.term.2).2.want 5 [41]) := by
  unfold atom; dsimp only; rw [if_pos h]; rfl
theorem args_l : ∀ (f : Nat) (r : Rd), (args f r).2.l = r.l ∧ r.i ≤ (args f r).2.i
  | 0, r => ⟨rfl, Nat.le_refl _⟩
  | f + 1, r => by
    rw [args]
    split
    · have h1 := args_l f r.step.term.2
      have h2 := term_l r.step
      have h3 : r.i + 1 ≤ r.step.term.2.i := h2.2.1
      exact ⟨h1.1.trans h2.1, by have := h1.2; dsimp only; omega⟩
    · exact ⟨rfl, Nat.le_refl _⟩
theorem atom_l (r : Rd) : r.atom.2.l = r.l ∧ r.i ≤ r.atom.2.i := by
  have h1 := name_l r
  have hb : r.name.2.brack.2.l = r.l ∧ r.i ≤ r.name.2.brack.2.i := by
    unfold brack
    dsimp only
    have h2 := term_l r.name.2.step
    have h3 := args_l r.name.2.l.length r.name.2.step.term.2
    have h4 := want_l (args r.name.2.l.length r.name.2.step.term.2).2 5 [41]
    have h5 : r.name.2.i + 1 ≤ r.name.2.step.term.2.i := h2.2.1
    exact ⟨h4.1.trans (h3.1.trans (h2.1.trans h1.1)), by omega⟩
  unfold atom
  dsimp only
  split
  · dsimp only; split <;> exact hb
  · exact h1
end Rd
/-! the length of a text -/
theorem nDigits_le : ∀ k u : Nat, u < 10 ^ k → 1 ≤ k → Lib.nDigits u ≤ k
  | 0, u, _, h => by omega
  | k + 1, u, h, _ => by
    rw [Lib.nDigits]
    split
    · omega
    · rename_i hu
      cases k with
      | zero => omega
      | succ k =>
        have := nDigits_le (k + 1) (u / 10) (by rw [Nat.pow_succ] at h; omega) (by omega)
        omega
theorem itoa_len {n : Int} (h : inR n = true) : (Lib.itoa n).length ≤ 20 := by
  simp only [inR, decide_eq_true_eq] at h
  unfold Lib.itoa
  split
  · rw [List.length_cons, Lib.decDigits_length]
    have := nDigits_le 19 n.natAbs (by omega) (by omega)
    omega
  · rw [Lib.decDigits_length]
    have := nDigits_le 19 n.toNat (by omega) (by omega)
    omega
theorem textV_len {v : Val} (h : checkS v = true) : (textV v).length ≤ 122 := by
  rcases check_cases h with ⟨_, h2, _, h4⟩ | ⟨_, _, h3, h4⟩ | ⟨_, _, h3, h4⟩ <;> rw [h4]
  · have := itoa_len h2; omega
  · simp [symbolS] at h3; omega
  · simp [plainS] at h3
    have := flatMap_len v.s
    simp only [quotedS, List.length_append, List.length_cons, List.length_nil]; omega
theorem termT_len {t : Trm} (h : termOk t = true) : (termT t).length ≤ 122 := by
  unfold termOk at h
  unfold termT
  split
  · rename_i hv; rw [if_pos hv] at h; exact textV_len h
  · rename_i hv
    rw [if_neg hv, Bool.and_eq_true] at h
    have := h.1
    simp [varS, refWordS] at this; omega
theorem weave_tail_len : ∀ l : List Trm, l.all termOk = true → (weaveK (tailK l)).length ≤ 124 * l.length + 1
  | [], _ => by simp [tailK, weaveK]
  | t :: r, h => by
    rw [List.all_cons, Bool.and_eq_true] at h
    have := weave_tail_len r h.2
    have := termT_len h.1
    simp only [tailK, weaveK, termK_T, List.length_append, List.length_cons, List.length_nil]; omega
theorem atomT_len {a : Atm} (h : atomOk a = true) : (atomT a).length ≤ 700 := by
  unfold atomOk at h
  rw [Bool.and_eq_true, Bool.and_eq_true, decide_eq_true_eq] at h
  obtain ⟨⟨h1, h2⟩, h3⟩ := h
  have hn := nameS_word h1
  simp [refWordS] at hn
  unfold atomT atomK argsK
  rw [weaveK]
  split
  · simp [weaveK]; omega
  · rename_i t r e
    rw [e, List.all_cons, Bool.and_eq_true] at h3
    rw [e, List.length_cons] at h2
    have := weave_tail_len r h3.2
    have := termT_len h3.1
    simp only [weaveK, termK_T, List.length_append, List.length_cons, List.length_nil]; omega
end Go.PV
namespace Go.PV
open Go Go.Proofs
set_option maxRecDepth 100000
theorem sletter_good (c : UInt8) : Good Tryz.prog 251 [.int .u8 c.toNat] [] [.bool (letterB c)] [] := by
  refine good_of hP Tryz.func251 (by kernel_rfl) (lv := [0, 2]) (js := []) ⟨rfl, rfl, rfl, rfl, rfl, rfl, _, rfl, ?_⟩
  repeat' (conv => whnf); refine branch_of (fun _ => ?_) (fun _ => ?_)
  all_goals (conv => whnf); exact fin0 (by simp_all [letterB, smallB, largeB, digitB, inB] <;> first | omega | (rw [Bool.eq_iff_iff]; simp; omega)) trivial
theorem svar_good (s : Bs) (hs : s.length ≤ 1000000) : Good Tryz.prog 234 [.str s] [] [.bool (varS s)] [] := by
  refine good_of hP Tryz.func234 (by kernel_rfl) (lv := [0, 2, 3, 21, 23, 24, 25, 31]) (js := [21]) ⟨rfl, rfl, rfl, rfl, rfl, rfl, _, rfl, ?_⟩
  conv => whnf
  refine seq_of hP [0, 2, 3, 21, 23, 24, 25, 31] [21] [0] [] [] (fun st => varS s = s.all letterB ∧ st = ⟨[(0, .str s)], []⟩) ?_ ?_
  · conv => whnf
    refine branch_of (fun h => ?_) (fun h => ?_)
    · have h := of_decide_eq_true h
      conv => whnf
      exact fin0 (by simp [varS, refWordS]; omega) trivial
    have h := of_decide_eq_false h
    conv => whnf
    refine branch_of (fun h2 => ?_) (fun h2 => ?_)
    · have h2 := of_decide_eq_true h2
      conv => whnf
      exact fin0 (by simp [varS, refWordS]; omega) trivial
    have h2 := of_decide_eq_false h2
    have h0 : 0 < s.length := by omega
    obtain ⟨c, r, hcr, hc⟩ := head_at h0
    have hw : varS s = (largeB c && s.all letterB) := by
      have e1 : decide (1 ≤ s.length) = true := by simp; omega
      have e2 : decide (s.length ≤ 24) = true := by simp; omega
      have : headB largeB s = largeB c := by rw [hcr]; rfl
      simp [varS, refWordS, e1, e2, this]
    rw [hw]
    conv => whnf
    refine ⟨c, by rw [← hc]; exact idx h0 rfl, ?_⟩
    conv => whnf
    refine branch_of (fun h3 => ?_) (fun h3 => ?_)
    · have h3 := of_decide_eq_true h3
      conv => whnf
      exact fin0 (by simp [largeB, inB]; omega) trivial
    have h3 := of_decide_eq_false h3
    conv => whnf
    refine ⟨c, by rw [← hc]; exact idx h0 rfl, ?_⟩
    conv => whnf
    refine branch_of (fun h4 => ?_) (fun h4 => ?_)
    · have h4 := of_decide_eq_true h4
      conv => whnf
      exact fin0 (by simp [largeB, inB]; omega) trivial
    have h4 := of_decide_eq_false h4
    conv => whnf
    have hl : largeB c = true := by simp [largeB, inB]; omega
    exact ⟨by rw [hl]; rfl, rfl⟩
  rintro st ⟨hw, rfl⟩
  rw [hw]
  conv => whnf
  refine loop_of hP [0, 2, 3, 21, 23, 24, 25, 31] [21] [0, 23, 24] [] [] (fun n st => ∃ k : Nat, n = s.length - k ∧ k ≤ s.length ∧ s.all letterB = (s.drop k).all letterB ∧ st = ⟨[(0, .str s), (23, .int .i64 s.length), (24, .int .i64 k)], []⟩) s.length ?_ ?_
  · conv => whnf
    exact ⟨0, rfl, Nat.zero_le _, rfl, rfl⟩
  · rintro n st ⟨k, rfl, hk, he, rfl⟩
    conv => whnf
    refine branch_of (fun h => ?_) (fun h => ?_)
    · have h := of_decide_eq_true h
      have hk' : k < s.length := by omega
      rw [all_drop hk'] at he
      conv => whnf
      refine ⟨s[k], idx hk' rfl, ?_⟩
      conv => whnf
      refine call0 (sletter_good _) ?_
      cases hl : letterB s[k] with
      | false =>
        rw [hl] at he
        conv => whnf
        exact fin0 (by rw [he]; rfl) trivial
      | true =>
        rw [hl, Bool.true_and] at he
        conv => whnf
        refine ⟨s.length - (k + 1), by omega, k + 1, rfl, by omega, he, ?_⟩
        rw [wr (by omega) (by omega)]; rfl
    · have h := of_decide_eq_false h
      have : s.drop k = [] := List.drop_eq_nil_iff.2 (by omega)
      rw [this] at he
      conv => whnf
      exact fin0 (by rw [he]; rfl) trivial
abbrev strV (l : List Bs) : List (List V) := l.map fun x => [.str x]
theorem index_good (l : List Bs) (s : Bs) (hl : l.length ≤ 1000000) : Good Tryz.prog 229 [.sl 1 (strV l), .str s] [] [.int .i64 (match l.findIdx? (fun x => decide (s = x)) with | some i => (i : Int) | none => -1)] [] := by
  refine good_of hP Tryz.func229 (by kernel_rfl) (lv := [0, 1, 4, 5, 7, 8, 9, 16]) (js := []) ⟨rfl, rfl, rfl, rfl, rfl, rfl, _, rfl, ?_⟩
  conv => whnf
  refine loop_of hP [0, 1, 4, 5, 7, 8, 9, 16] [] [0, 1, 7, 8] [] [] (fun n st => ∃ k : Nat, n = l.length - k ∧ k ≤ l.length ∧ (∀ j (h : j < l.length), j < k → s ≠ l[j]) ∧ st = ⟨[(0, .sl 1 (strV l)), (1, .str s), (7, .int .i64 l.length), (8, .int .i64 k)], []⟩) l.length ?_ ?_
  · conv => whnf
    exact ⟨0, rfl, Nat.zero_le _, fun j _ h => by omega, by rw [← List.length_map (f := fun x => [V.str x])]; rfl⟩
  · rintro n st ⟨k, rfl, hk, hn, rfl⟩
    conv => whnf
    refine branch_of (fun h => ?_) (fun h => ?_)
    · have h := of_decide_eq_true h
      have hk' : k < l.length := by omega
      conv => whnf
      refine ⟨[.str l[k]], idxM hk' rfl, ?_⟩
      conv => whnf
      refine branch_of (fun h2 => ?_) (fun h2 => ?_)
      · have h2 := of_decide_eq_true h2
        conv => whnf
        refine fin0 ?_ trivial
        have : l.findIdx? (fun x => decide (s = x)) = some k := by
          rw [List.findIdx?_eq_some_iff_getElem]
          exact ⟨hk', by simp [h2], fun j hj => by simpa using hn j (by omega) hj⟩
        rw [this]
      · have h2 := of_decide_eq_false h2
        conv => whnf
        refine ⟨l.length - (k + 1), by omega, k + 1, rfl, by omega, fun j hj hjk => ?_, ?_⟩
        · by_cases e : j = k
          · subst e; exact h2
          · exact hn j hj (by omega)
        · rw [wr (by omega) (by omega)]; rfl
    · have h := of_decide_eq_false h
      conv => whnf
      refine fin0 ?_ trivial
      have : l.findIdx? (fun x => decide (s = x)) = none := by
        rw [List.findIdx?_eq_none_iff]
        intro x hx
        obtain ⟨j, hj, rfl⟩ := List.getElem_of_mem hx
        simpa using hn j hj (by omega)
      rw [this]
theorem contains_good (l : List Bs) (s : Bs) (hl : l.length ≤ 1000000) : Good Tryz.prog 193 [.sl 1 (strV l), .str s] [] [.bool (decide (s ∈ l))] [] := by
  refine good_of hP Tryz.func193 (by kernel_rfl) (lv := [0, 1, 4]) (js := []) ⟨rfl, rfl, rfl, rfl, rfl, rfl, _, rfl, ?_⟩
  conv => whnf
  refine call0 (index_good l s hl) ?_
  conv => whnf
  refine fin0 ?_ trivial
  congr 2
  rw [decide_eq_decide]
  split
  · rename_i i hi
    rw [List.findIdx?_eq_some_iff_getElem] at hi
    obtain ⟨h1, h2, _⟩ := hi
    have : s = l[i] := by simpa using h2
    refine ⟨fun _ => this ▸ List.getElem_mem h1, fun _ => by omega⟩
  · rename_i hi
    rw [List.findIdx?_eq_none_iff] at hi
    refine ⟨fun h => by omega, fun h => ?_⟩
    have := hi s h; simp at this
theorem fword_good (s : Bs) : Good Tryz.prog 186 [.str s] [] [.bool (decide (s ∈ wordsL))] [] := by
  refine good_of hP Tryz.func186 (by kernel_rfl) (lv := [0, 2]) (js := []) ⟨rfl, rfl, rfl, rfl, rfl, rfl, _, rfl, ?_⟩
  conv => whnf
  refine call0 (contains_good wordsL s (by decide)) ?_
  conv => whnf
  exact fin0 rfl trivial
theorem fname_good (s : Bs) (hs : s.length ≤ 1000000) : Good Tryz.prog 120 [.str s] [] [.bool (nameS s)] [] := by
  refine good_of hP Tryz.func120 (by kernel_rfl) (lv := [0, 2]) (js := []) ⟨rfl, rfl, rfl, rfl, rfl, rfl, _, rfl, ?_⟩
  have e : nameS s = (symbolS s && !decide (s ∈ wordsL)) := by rw [symbol_word]; rfl
  have hc : checkS ⟨2, 0, s⟩ = symbolS s := by simp [checkS]
  rw [e]
  conv => whnf
  refine call0 (check_good ⟨2, 0, s⟩ (by dsimp only; omega)) ?_
  rw [hc]
  cases symbolS s with
  | false =>
    conv => whnf
    exact fin0 rfl trivial
  | true =>
    conv => whnf
    refine call0 (fword_good s) ?_
    conv => whnf
    exact fin0 rfl trivial
theorem zeroV_c : zeroV.c = [.int .i64 0, .int .i64 0, .str []] := rfl
theorem mterm_good (t : Trm) (h1 : t.v.length ≤ 1000000) (h2 : t.x.s.length ≤ 1000000) : Good Tryz.prog 207 [.agg t.c] [] [.bool (termOk t)] [] := by
  refine good_of hP Tryz.func207 (by kernel_rfl) (lv := [0, 1, 2, 5]) (js := []) ⟨rfl, rfl, rfl, rfl, rfl, rfl, _, rfl, ?_⟩
  conv => whnf
  refine branch_of (fun h => ?_) (fun h => ?_)
  · have h : t.v = [] := by simpa using h
    have e : termOk t = checkS t.x := by unfold termOk; rw [if_pos h]
    rw [e]
    conv => whnf
    refine call0 (check_good t.x (by omega)) ?_
    cases checkS t.x with
    | false =>
      conv => whnf
      exact fin0 rfl trivial
    | true =>
      conv => whnf
      exact fin0 rfl trivial
  · have h : t.v ≠ [] := by simpa using h
    have e : termOk t = (varS t.v && decide (t.x = zeroV)) := by unfold termOk; rw [if_neg h]
    rw [e]
    conv => whnf
    refine call0 (svar_good t.v (by omega)) ?_
    cases varS t.v with
    | false =>
      conv => whnf
      exact fin0 rfl trivial
    | true =>
      conv => whnf
      refine ⟨_, (eqVal t.x zeroV).1, ?_⟩
      conv => whnf
      exact fin0 (by simp) trivial
theorem mclos_good (t : Trm) (h1 : t.v.length ≤ 1000000) (h2 : t.x.s.length ≤ 1000000) : Good Tryz.prog 206 [.agg t.c] [] [.bool (!termOk t)] [] := by
  refine good_of hP Tryz.func206 (by kernel_rfl) (lv := [0, 1, 2]) (js := []) ⟨rfl, rfl, rfl, rfl, rfl, rfl, _, rfl, ?_⟩
  conv => whnf
  refine call0 (mterm_good t h1 h2) ?_
  conv => whnf
  exact fin0 rfl trivial
theorem indexF_good (l : List Trm) (hl : l.length ≤ 1000000) (g : FuncId) (p : Trm → Bool) (hg : ∀ t ∈ l, Good Tryz.prog g [.agg t.c] [] [.bool (p t)] []) : Good Tryz.prog 233 [.sl 4 (trmV l), .fn g []] [] [.int .i64 (match l.findIdx? p with | some i => (i : Int) | none => -1)] [] := by
  refine good_of hP Tryz.func233 (by kernel_rfl) (lv := [0, 1, 4, 5, 7, 8, 9, 16]) (js := []) ⟨rfl, rfl, rfl, rfl, rfl, rfl, _, rfl, ?_⟩
  conv => whnf
  refine loop_of hP [0, 1, 4, 5, 7, 8, 9, 16] [] [0, 1, 7, 8] [] [] (fun n st => ∃ k : Nat, n = l.length - k ∧ k ≤ l.length ∧ (∀ j (h : j < l.length), j < k → p l[j] = false) ∧ st = ⟨[(0, .sl 4 (trmV l)), (1, .fn g []), (7, .int .i64 l.length), (8, .int .i64 k)], []⟩) l.length ?_ ?_
  · conv => whnf
    exact ⟨0, rfl, Nat.zero_le _, fun j _ h => by omega, by rw [← List.length_map (f := Trm.c)]; rfl⟩
  · rintro n st ⟨k, rfl, hk, hn, rfl⟩
    conv => whnf
    refine branch_of (fun h => ?_) (fun h => ?_)
    · have h := of_decide_eq_true h
      have hk' : k < l.length := by omega
      conv => whnf
      refine ⟨Trm.c l[k], idxM hk' rfl, ?_⟩
      conv => whnf
      refine call0 (hg _ (List.getElem_mem hk')) ?_
      cases hp : p l[k] with
      | true =>
        conv => whnf
        refine fin0 ?_ trivial
        have : l.findIdx? p = some k := by
          rw [List.findIdx?_eq_some_iff_getElem]
          exact ⟨hk', hp, fun j hj => by simpa using hn j (by omega) hj⟩
        rw [this]
      | false =>
        conv => whnf
        refine ⟨l.length - (k + 1), by omega, k + 1, rfl, by omega, fun j hj hjk => ?_, ?_⟩
        · by_cases e : j = k
          · subst e; exact hp
          · exact hn j hj (by omega)
        · rw [wr (by omega) (by omega)]; rfl
    · have h := of_decide_eq_false h
      conv => whnf
      refine fin0 ?_ trivial
      have : l.findIdx? p = none := by
        rw [List.findIdx?_eq_none_iff]
        intro x hx
        obtain ⟨j, hj, rfl⟩ := List.getElem_of_mem hx
        exact hn j hj (by omega)
      rw [this]
theorem any_idx {α : Type} (l : List α) (p : α → Bool) : decide (0 ≤ (match l.findIdx? p with | some i => (i : Int) | none => -1)) = l.any p := by
  rw [Bool.eq_iff_iff, decide_eq_true_eq]
  split
  · rename_i i hi
    rw [List.findIdx?_eq_some_iff_getElem] at hi
    obtain ⟨h1, h2, _⟩ := hi
    exact ⟨fun _ => List.any_eq_true.2 ⟨_, List.getElem_mem h1, h2⟩, fun _ => by omega⟩
  · rename_i hi
    rw [List.findIdx?_eq_none_iff] at hi
    refine ⟨fun h => by omega, fun h => ?_⟩
    obtain ⟨x, h1, h2⟩ := List.any_eq_true.1 h
    rw [hi x h1] at h2; cases h2
theorem containsF_good (l : List Trm) (hl : l.length ≤ 1000000) (g : FuncId) (p : Trm → Bool) (hg : ∀ t ∈ l, Good Tryz.prog g [.agg t.c] [] [.bool (p t)] []) : Good Tryz.prog 205 [.sl 4 (trmV l), .fn g []] [] [.bool (l.any p)] [] := by
  refine good_of hP Tryz.func205 (by kernel_rfl) (lv := [0, 1, 4]) (js := []) ⟨rfl, rfl, rfl, rfl, rfl, rfl, _, rfl, ?_⟩
  conv => whnf
  refine call0 (indexF_good l hl g p hg) ?_
  conv => whnf
  refine fin0 ?_ trivial
  rw [any_idx]
/-- lengths that are played -/
def trmB (t : Trm) : Prop := t.v.length ≤ 1000000 ∧ t.x.s.length ≤ 1000000
def atmB (a : Atm) : Prop := a.n.length ≤ 1000000 ∧ a.a.length ≤ 1000000 ∧ ∀ t ∈ a.a, trmB t
theorem mcheck_good (a : Atm) (h : atmB a) : Good Tryz.prog 142 [.agg a.c] [] [.int .i64 (if atomOk a then 0 else 1)] [] := by
  refine good_of hP Tryz.func142 (by kernel_rfl) (lv := [0, 1, 2, 17]) (js := []) ⟨rfl, rfl, rfl, rfl, rfl, rfl, _, rfl, ?_⟩
  conv => whnf
  refine call0 (fname_good a.n h.1) ?_
  cases hn : nameS a.n with
  | false =>
    conv => whnf
    exact fin0 (by simp [atomOk, hn]) trivial
  | true =>
    conv => whnf
    refine branch_of (fun h1 => ?_) (fun h1 => ?_)
    · have h1 := of_decide_eq_true h1
      rw [List.length_map] at h1
      conv => whnf
      exact fin0 (by simp [atomOk]; omega) trivial
    · have h1 := of_decide_eq_false h1
      rw [List.length_map] at h1
      conv => whnf
      refine call0 (containsF_good a.a h.2.1 _ (fun t => !termOk t) (fun t ht => mclos_good t (h.2.2 t ht).1 (h.2.2 t ht).2)) ?_
      have e : atomOk a = !(a.a.any fun t => !termOk t) := by
        have h1 : decide (a.a.length ≤ 5) = true := by simp; omega
        rw [atomOk, hn, h1, List.not_any_eq_all_not]; simp
      rw [e]
      cases a.a.any fun t => !termOk t with
      | true =>
        conv => whnf
        exact fin0 rfl trivial
      | false =>
        conv => whnf
        exact fin0 rfl trivial
end Go.PV
namespace Go.PV
open Go Go.Proofs
set_option maxRecDepth 100000
theorem open_good (r : Rd) : Good Tryz.prog 149 [.ptr 0 0 0] [r.ob] [.bool r.isOpen] [r.ob] := by
  obtain ⟨l, i, b, o, w⟩ := r
  refine good_of hP Tryz.func149 (by kernel_rfl) (lv := [0, 2]) (js := []) ⟨rfl, rfl, rfl, rfl, rfl, rfl, _, rfl, ?_⟩
  cases b with
  | true =>
    conv => whnf
    refine ⟨[], rfl, ?_⟩
    conv => whnf
    exact ⟨⟨⟩, rfl, trivial⟩
  | false =>
    conv => whnf
    refine ⟨[], rfl, ?_⟩
    conv => whnf
    exact ⟨⟨⟩, rfl, trivial⟩
theorem see_good (r : Rd) (k : Int) (t : Bs) (hl : r.l.length ≤ 1000000) : Good Tryz.prog 210 [.ptr 0 0 0, .int .i64 k, .str t] [r.ob] [.bool (r.see k t)] [r.ob] := by
  obtain ⟨l, i, b, o, w⟩ := r
  dsimp only at hl
  refine good_of hP Tryz.func210 (by kernel_rfl) (lv := [0, 1, 2, 6]) (js := []) ⟨rfl, rfl, rfl, rfl, rfl, rfl, _, rfl, ?_⟩
  unfold Rd.see
  conv => whnf
  refine callN [(0, 0)] (open_good ⟨l, i, b, o, w⟩) ?_ 
  conv => whnf
  refine ⟨⟨⟩, rfl, ?_⟩
  cases Rd.isOpen ⟨l, i, b, o, w⟩ with
  | false =>
    conv => whnf
    refine ⟨by kernel_rfl, ?_⟩
    conv => whnf
    refine ⟨[], rfl, ?_⟩
    conv => whnf
    exact ⟨⟨⟩, rfl, trivial⟩
  | true =>
    conv => whnf
    refine branch_of (fun h => ?_) (fun h => ?_)
    · have h := of_decide_eq_true h
      rw [List.length_map] at h
      try dsimp only at h
      have hi : i < l.length := by omega
      have hc : Rd.cur ⟨l, i, b, o, w⟩ = some (l[i].k, l[i].t) := by simp [Rd.cur, hi]
      rw [hc, show decide (some (l[i].k, l[i].t) = some (k, t)) = (decide (l[i].k = k) && decide (l[i].t = t)) from by rw [Bool.eq_iff_iff]; simp]
      conv => whnf
      refine ⟨Tok.c l[i], idxM hi rfl, ?_⟩
      conv => whnf
      refine branch_of (fun h2 => ?_) (fun h2 => ?_)
      · rw [h2]
        conv => whnf
        refine ⟨Tok.c l[i], idxM hi rfl, ?_⟩
        conv => whnf
        refine ⟨by kernel_rfl, ?_⟩
        conv => whnf
        refine ⟨[], rfl, ?_⟩
        conv => whnf
        exact ⟨⟨⟩, rfl, trivial⟩
      · rw [h2]
        conv => whnf
        refine ⟨by kernel_rfl, ?_⟩
        conv => whnf
        refine ⟨[], rfl, ?_⟩
        conv => whnf
        exact ⟨⟨⟩, rfl, trivial⟩
    · have h := of_decide_eq_false h
      rw [List.length_map] at h
      try dsimp only at h
      have hc : Rd.cur ⟨l, i, b, o, w⟩ = none := by
        unfold Rd.cur; rw [List.getElem?_eq_none (by dsimp only; omega)]; rfl
      rw [hc]
      conv => whnf
      refine ⟨by kernel_rfl, ?_⟩
      conv => whnf
      refine ⟨[], rfl, ?_⟩
      conv => whnf
      exact ⟨⟨⟩, rfl, trivial⟩
theorem cur_lt' {r : Rd} {k : Int} {t : Bs} (h : r.see k t = true) : r.i < r.l.length := Rd.cur_lt (Rd.see_open h).2
theorem rsign_good' (r : Rd) (t : Bs) (hl : r.l.length ≤ 1000000) : Good Tryz.prog 154 [.ptr 0 0 0, .str t] [r.ob] [.bool (r.see 5 t)] [(r.word 5 t).ob] := by
  refine good_of hP Tryz.func154 (by kernel_rfl) (lv := [0, 1, 4, 5, 9]) (js := []) ⟨rfl, rfl, rfl, rfl, rfl, rfl, _, rfl, ?_⟩
  unfold Rd.word
  conv => whnf
  refine callN [(0, 0)] (see_good r 5 t hl) ?_ 
  conv => whnf
  refine ⟨⟨⟩, rfl, ?_⟩
  cases h : r.see 5 t with
  | false =>
    conv => whnf
    refine ⟨[], rfl, ?_⟩
    conv => whnf
    exact ⟨⟨⟩, rfl, trivial⟩
  | true =>
    have := cur_lt' h
    rw [if_pos rfl]
    have hw : IntKind.i64.wrap ((r.i : Int) + 1) = (r.i + 1 : Nat) := by rw [wr (by omega) (by omega)]; rfl
    conv => whnf
    rw [hw]
    refine ⟨[], rfl, ?_⟩
    conv => whnf
    exact ⟨⟨⟩, rfl, trivial⟩
theorem want_good (r : Rd) (t : Bs) (hl : r.l.length ≤ 1000000) : Good Tryz.prog 94 [.ptr 0 0 0, .str t] [r.ob] [] [(r.want 5 t).ob] := by
  refine good_of hP Tryz.func94 (by kernel_rfl) (lv := [0, 1, 11]) (js := []) ⟨rfl, rfl, rfl, rfl, rfl, rfl, _, rfl, ?_⟩
  unfold Rd.want
  conv => whnf
  refine callN [(0, 0)] (open_good r) ?_ 
  conv => whnf
  refine ⟨⟨⟩, rfl, ?_⟩
  cases ho : r.isOpen with
  | false =>
    have : r.see 5 t = false := by simp [Rd.see, ho]
    rw [this]
    conv => whnf
    refine ⟨[], rfl, ?_⟩
    conv => whnf
    exact ⟨⟨⟩, rfl, trivial⟩
  | true =>
    conv => whnf
    refine callN [(0, 0)] (rsign_good' r t hl) ?_ 
    conv => whnf
    refine ⟨⟨⟩, rfl, ?_⟩
    unfold Rd.word
    cases hs : r.see 5 t with
    | true =>
      rw [if_pos rfl, if_pos rfl]
      conv => whnf
      refine ⟨[], rfl, ?_⟩
      conv => whnf
      exact ⟨⟨⟩, rfl, trivial⟩
    | false =>
      conv => whnf
      refine ⟨[], rfl, ?_⟩
      conv => whnf
      exact ⟨⟨⟩, rfl, trivial⟩
theorem rname_good (r : Rd) (hl : r.l.length ≤ 1000000) (ht : ∀ t ∈ r.l, t.t.length ≤ 1000000) : Good Tryz.prog 93 [.ptr 0 0 0] [r.ob] [.str r.name.1] [r.name.2.ob] := by
  obtain ⟨l, i, b, o, w⟩ := r
  dsimp only at hl ht
  refine good_of hP Tryz.func93 (by kernel_rfl) (lv := [0, 2, 5, 44]) (js := []) ⟨rfl, rfl, rfl, rfl, rfl, rfl, _, rfl, ?_⟩
  unfold Rd.name
  conv => whnf
  refine callN [(0, 0)] (open_good ⟨l, i, b, o, w⟩) ?_ 
  conv => whnf
  refine ⟨⟨⟩, rfl, ?_⟩
  cases Rd.isOpen ⟨l, i, b, o, w⟩ with
  | false =>
    conv => whnf
    refine ⟨[], rfl, ?_⟩
    conv => whnf
    exact ⟨⟨⟩, rfl, trivial⟩
  | true =>
    rw [if_pos rfl]
    conv => whnf
    refine branch_of (fun h => ?_) (fun h => ?_)
    · have h := of_decide_eq_true h
      rw [List.length_map] at h
      try dsimp only at h
      have hc : Rd.cur ⟨l, i, b, o, w⟩ = none := by
        unfold Rd.cur; rw [List.getElem?_eq_none (by dsimp only; omega)]; rfl
      rw [hc]
      conv => whnf
      refine ⟨by kernel_rfl, ?_⟩
      conv => whnf
      refine ⟨[], rfl, ?_⟩
      conv => whnf
      exact ⟨⟨⟩, rfl, trivial⟩
    · have h := of_decide_eq_false h
      rw [List.length_map] at h
      try dsimp only at h
      have hi : i < l.length := by omega
      have hc : Rd.cur ⟨l, i, b, o, w⟩ = some (l[i].k, l[i].t) := by simp [Rd.cur, hi]
      rw [hc]
      conv => whnf
      refine ⟨Tok.c l[i], idxM hi rfl, ?_⟩
      conv => whnf
      refine branch_of (fun h2 => ?_) (fun h2 => ?_)
      · rw [Bool.not_eq_true'] at h2
        have h2 := of_decide_eq_false h2
        have e : ¬ (l[i].k = 1 ∧ nameS l[i].t = true) := fun h => h2 h.1
        dsimp only
        rw [if_neg e]
        conv => whnf
        refine ⟨by kernel_rfl, ?_⟩
        conv => whnf
        refine ⟨[], rfl, ?_⟩
        conv => whnf
        exact ⟨⟨⟩, rfl, trivial⟩
      · rw [Bool.not_eq_false'] at h2
        have h2 := of_decide_eq_true h2
        conv => whnf
        refine ⟨Tok.c l[i], idxM hi rfl, ?_⟩
        conv => whnf
        refine call0 (fname_good l[i].t (ht _ (List.getElem_mem hi))) ?_
        cases hn : nameS l[i].t with
        | false =>
          dsimp only
          rw [if_neg (by simp [hn])]
          conv => whnf
          refine ⟨by kernel_rfl, ?_⟩
          conv => whnf
          refine ⟨[], rfl, ?_⟩
          conv => whnf
          exact ⟨⟨⟩, rfl, trivial⟩
        | true =>
          dsimp only
          rw [if_pos ⟨h2, hn⟩]
          have hw : IntKind.i64.wrap ((i : Int) + 1) = (i + 1 : Nat) := by rw [wr (by omega) (by omega)]; rfl
          conv => whnf
          refine ⟨by kernel_rfl, ?_⟩
          conv => whnf
          rw [hw]
          refine ⟨Tok.c l[i], idxM hi (by rw [wr (by omega) (by omega)]; omega), ?_⟩
          conv => whnf
          refine ⟨by kernel_rfl, ?_⟩
          conv => whnf
          refine ⟨[], rfl, ?_⟩
          conv => whnf
          exact ⟨⟨⟩, rfl, trivial⟩
theorem value_good (t : Tok) (ht : t.t.length ≤ 100000) : Good Tryz.prog 211 [.agg t.c] [] [.agg (valueT (kt t)).c, .bool (valueS (kt t)).isSome] [] := by
  obtain ⟨k, s, p⟩ := t
  dsimp only at ht
  refine good_of hP Tryz.func211 (by kernel_rfl) (lv := [0, 1, 2, 3, 4, 5, 6, 7, 8, 10, 11, 19]) (js := []) ⟨rfl, rfl, rfl, rfl, rfl, rfl, _, rfl, ?_⟩
  unfold valueT valueS kt
  dsimp only
  conv => whnf
  refine branch_of (fun h => ?_) (fun h => ?_)
  · have h := of_decide_eq_true h
    rw [if_pos h, if_pos h]
    conv => whnf
    refine call0 (svar_good s (by omega)) ?_
    conv => whnf
    refine ⟨by kernel_rfl, ?_⟩
    conv => whnf
    refine fin0 ?_ trivial
    cases varS s <;> rfl
  · have h := of_decide_eq_false h
    rw [if_neg h, if_neg h]
    conv => whnf
    refine branch_of (fun h1 => ?_) (fun h1 => ?_)
    · have h1 := of_decide_eq_true h1
      rw [if_pos h1, if_pos h1]
      conv => whnf
      refine call0 (number_good s ht) ?_
      conv => whnf
      refine fin0 ?_ trivial
      cases numberS s <;> rfl
    · have h1 := of_decide_eq_false h1
      rw [if_neg h1, if_neg h1]
      conv => whnf
      refine call0 (parse_good s (by omega)) ?_
      cases hp : parseS s with
      | none =>
        conv => whnf
        exact fin0 rfl trivial
      | some v =>
        conv => whnf
        refine branch_of (fun h2 => ?_) (fun h2 => ?_)
        · have h2 : k = 1 := of_decide_eq_true h2
          conv => whnf
          refine branch_of (fun h3 => ?_) (fun h3 => ?_)
          · have h3 := of_decide_eq_true h3
            have h3 : v.k = 2 := h3
            conv => whnf
            exact fin0 (by simp [h2, h3]) trivial
          · have h3 := of_decide_eq_false h3
            have h3 : ¬ v.k = 2 := h3
            conv => whnf
            refine branch_of (fun h4 => ?_) (fun h4 => ?_)
            · have h4 : k = 4 := of_decide_eq_true h4; omega
            · conv => whnf
              exact fin0 (by simp [h2, h3]) trivial
        · have h2 : ¬ k = 1 := of_decide_eq_false h2
          conv => whnf
          refine branch_of (fun h4 => ?_) (fun h4 => ?_)
          · have h4 : k = 4 := of_decide_eq_true h4
            conv => whnf
            refine fin0 ?_ trivial
            by_cases h5 : v.k = 3 <;> simp [h4, h5]
          · have h4 : ¬ k = 4 := of_decide_eq_false h4
            conv => whnf
            exact fin0 (by simp [h2, h4]) trivial
theorem rterm_good (r : Rd) (hl : r.l.length ≤ 1000000) (ht : ∀ t ∈ r.l, t.t.length ≤ 100000) : Good Tryz.prog 155 [.ptr 0 0 0] [r.ob] [.agg r.term.1.c] [r.term.2.ob] := by
  obtain ⟨l, i, b, o, w⟩ := r
  dsimp only at hl ht
  refine good_of hP Tryz.func155 (by kernel_rfl) (lv := [0, 2, 3, 4, 7, 18, 33]) (js := []) ⟨rfl, rfl, rfl, rfl, rfl, rfl, _, rfl, ?_⟩
  unfold Rd.term
  conv => whnf
  refine callN [(0, 0)] (open_good ⟨l, i, b, o, w⟩) ?_ 
  conv => whnf
  refine ⟨⟨⟩, rfl, ?_⟩
  cases Rd.isOpen ⟨l, i, b, o, w⟩ with
  | false =>
    conv => whnf
    refine ⟨[], rfl, ?_⟩
    conv => whnf
    exact ⟨⟨⟩, rfl, trivial⟩
  | true =>
    rw [if_pos rfl]
    conv => whnf
    refine ⟨by kernel_rfl, ?_⟩
    conv => whnf
    refine branch_of (fun h => ?_) (fun h => ?_)
    · have h := of_decide_eq_true h
      rw [List.length_map] at h
      try dsimp only at h
      have hi : i < l.length := by omega
      have hc : Rd.cur ⟨l, i, b, o, w⟩ = some (kt l[i]) := by simp [Rd.cur, hi]
      rw [hc, Option.bind_some]
      conv => whnf
      refine ⟨Tok.c l[i], idxM hi rfl, ?_⟩
      conv => whnf
      refine call0 (value_good l[i] (ht _ (List.getElem_mem hi))) ?_
      cases hv : valueS (kt l[i]) with
      | none =>
        conv => whnf
        refine ⟨by kernel_rfl, ?_⟩
        conv => whnf
        refine ⟨[], rfl, ?_⟩
        conv => whnf
        exact ⟨⟨⟩, rfl, trivial⟩
      | some t =>
        rw [valueS_T hv]
        have hw : IntKind.i64.wrap ((i : Int) + 1) = (i + 1 : Nat) := by rw [wr (by omega) (by omega)]; rfl
        conv => whnf
        refine ⟨by kernel_rfl, ?_⟩
        conv => whnf
        rw [hw]
        refine ⟨[], rfl, ?_⟩
        conv => whnf
        exact ⟨⟨⟩, rfl, trivial⟩
    · have h := of_decide_eq_false h
      rw [List.length_map] at h
      try dsimp only at h
      have hc : Rd.cur ⟨l, i, b, o, w⟩ = none := by
        unfold Rd.cur; rw [List.getElem?_eq_none (by dsimp only; omega)]; rfl
      rw [hc]
      conv => whnf
      refine ⟨[], rfl, ?_⟩
      conv => whnf
      exact ⟨⟨⟩, rfl, trivial⟩
end Go.PV
namespace Go.PV
open Go Go.Proofs
set_option maxRecDepth 100000
/-- signs that are played -/
def tokB (l : List Tok) : Prop := l.length ≤ 1000000 ∧ ∀ t ∈ l, t.t.length ≤ 100000
theorem tokB_R (s : Bs) (hs : s.length ≤ 20000) : tokB (toksR s) := by
  have hc := chain_R s
  have h1 : (toksR s).length ≤ 1000000 := by
    rcases chain_len hc with h | h
    · omega
    · rw [h]; exact Nat.zero_le _
  refine ⟨h1, fun t ht => ?_⟩
  have h2 := chain_lens hc (Nat.zero_le _)
  have : ∀ l : List Tok, t ∈ l → t.t.length ≤ lens l := fun l => by
    induction l with
    | nil => intro h; cases h
    | cons u l ih =>
      intro h
      simp only [lens, List.map_cons, List.sum_cons] at ih ⊢
      rcases List.mem_cons.1 h with rfl | h
      · omega
      · have := ih h; omega
  have := this _ ht
  omega
theorem take5 {α : Type} (t : α) (ts : List α) (u : α) : (t :: (ts ++ [u])).take 5 = if ts.length + 2 ≤ 5 then (t :: ts).take 5 ++ [u] else (t :: ts).take 5 := by
  rw [← List.cons_append]
  split
  · rw [List.take_of_length_le (by simp; omega), List.take_of_length_le (by simp; omega)]
  · rw [List.take_append_of_le_length (by simp; omega)]
theorem ratom_good (r : Rd) (hb : tokB r.l) : Good Tryz.prog 95 [.ptr 0 0 0] [r.ob] [.agg r.atom.1.c] [r.atom.2.ob] := by
  obtain ⟨hl, ht⟩ := hb
  refine good_of hP Tryz.func95 (by kernel_rfl) (lv := [0, 2, 3, 4, 5, 11, 21, 27, 37]) (js := []) ⟨rfl, rfl, rfl, rfl, rfl, rfl, _, rfl, ?_⟩
  have hn := Rd.name_l r
  conv => whnf
  refine callN [(0, 0)] (rname_good r hl (fun t h => Nat.le_trans (ht t h) (by omega))) ?_ 
  conv => whnf
  refine ⟨⟨⟩, rfl, ?_⟩
  conv => whnf
  refine callN [(0, 0)] (rsign_good' r.name.2 [40] (by rw [hn.1]; exact hl)) ?_ 
  conv => whnf
  refine ⟨⟨⟩, rfl, ?_⟩
  unfold Rd.word
  cases hs : r.name.2.see 5 [40] with
  | false =>
    rw [Rd.atom_no hs]
    conv => whnf
    refine ⟨[], rfl, ?_⟩
    conv => whnf
    exact ⟨⟨⟩, rfl, trivial⟩
  | true =>
    rw [if_pos rfl, Rd.atom_yes hs]
    generalize hx : r.name = x at *
    have h1 := Rd.term_l x.2.step
    conv => whnf
    refine callN [(0, 0)] (rterm_good x.2.step (by rw [show x.2.step.l = x.2.l from rfl, hn.1]; exact hl) (by rw [show x.2.step.l = x.2.l from rfl, hn.1]; exact ht)) ?_ 
    conv => whnf
    refine ⟨⟨⟩, rfl, ?_⟩
    conv => whnf
    refine ⟨⟨⟩, by dsimp only; simp only [List.length_cons, List.length_nil]; omega, ?_⟩
    conv => whnf
    refine ⟨by kernel_rfl, ?_⟩
    conv => whnf
    generalize hy : x.2.step.term = y at *
    have hyl : y.2.l = r.l := h1.1.trans hn.1
    have hF : x.2.l.length = r.l.length := by rw [hn.1]
    rw [hF]
    generalize hU : Rd.args r.l.length y.2 = U
    refine loop_of hP [0, 2, 3, 4, 5, 11, 21, 27, 37] [] [0, 2, 3, 4] [66, 67, 82] [] (fun m st => ∃ (f : Nat) (ts : List Trm) (q : Rd), m = q.l.length - q.i ∧ q.l = r.l ∧ q.l.length ≤ f + q.i ∧ f + ts.length = r.l.length ∧ U = (ts ++ (Rd.args f q).1, (Rd.args f q).2) ∧
      st = ⟨[(0, .ptr 0 0 0), (2, .ptr 66 0 0), (3, .ptr 67 0 0), (4, .int .i64 (ts.length + 1 : Nat))], [(0, q.ob), (66, .box 0 [.str [], .nil]), (67, .box 0 [.str x.1, .own 82 0]), (82, .arr 0 false 4 (trmV ((y.1 :: ts).take 5)))]⟩) (y.2.l.length - y.2.i) ?_ ?_
    · conv => whnf
      exact ⟨r.l.length, [], y.2, rfl, hyl, by rw [hyl]; omega, rfl, hU.symm, rfl⟩
    · rintro m st ⟨f, ts, q, rfl, hq, hf, hts, he, rfl⟩
      conv => whnf
      refine callN [(0, 0)] (rsign_good' q [44] (by rw [hq]; exact hl)) ?_ 
      conv => whnf
      refine ⟨⟨⟩, rfl, ?_⟩
      unfold Rd.word
      cases hs2 : q.see 5 [44] with
      | true =>
        have hlt := cur_lt' hs2
        obtain ⟨f, rfl⟩ : ∃ f', f = f' + 1 := ⟨f - 1, by omega⟩
        rw [Rd.args, if_pos hs2] at he
        rw [if_pos rfl]
        have h2 := Rd.term_l q.step
        conv => whnf
        refine callN [(0, 0)] (rterm_good q.step (by rw [show q.step.l = q.l from rfl, hq]; exact hl) (by rw [show q.step.l = q.l from rfl, hq]; exact ht)) ?_ 
        conv => whnf
        refine ⟨⟨⟩, rfl, ?_⟩
        conv => whnf
        generalize hz : q.step.term = z at *
        have h3 : q.i + 1 ≤ z.2.i := h2.2.1
        have h4 : z.2.l = q.l := h2.1
        have hw : IntKind.i64.wrap (((ts.length + 1 : Nat) : Int) + 1) = (ts.length + 1 + 1 : Nat) := by rw [wr (by omega) (by omega)]; rfl
        have hU2 : U = ((ts ++ [z.1]) ++ (Rd.args f z.2).1, (Rd.args f z.2).2) := by rw [he]; simp
        refine branch_of (fun h5 => ?_) (fun h5 => ?_)
        · have h5 := of_decide_eq_true h5
          rw [hw] at h5
          conv => whnf
          refine ⟨⟨⟩, by dsimp only; simp only [List.length_map, List.length_take, List.length_cons, List.length_nil]; omega, ?_⟩
          conv => whnf
          refine ⟨z.2.l.length - z.2.i, by rw [h4]; omega, f, ts ++ [z.1], z.2, rfl, h4.trans hq, by rw [h4]; omega, by simp; omega, hU2, ?_⟩
          rw [hw, take5, if_pos (by omega), List.length_append, show trmV ((y.1 :: ts).take 5 ++ [z.1]) = trmV ((y.1 :: ts).take 5) ++ [z.1.c] from List.map_append]
          rfl
        · have h5 := of_decide_eq_false h5
          rw [hw] at h5
          conv => whnf
          refine ⟨z.2.l.length - z.2.i, by rw [h4]; omega, f, ts ++ [z.1], z.2, rfl, h4.trans hq, by rw [h4]; omega, by simp; omega, hU2, ?_⟩
          rw [hw, take5, if_neg (by omega), List.length_append]
          rfl
      | false =>
        have hu : Rd.args f q = ([], q) := by cases f <;> simp [Rd.args, hs2]
        rw [hu, List.append_nil] at he
        subst he
        conv => whnf
        refine callN [(0, 0)] (want_good q [41] (by rw [hq]; exact hl)) ?_ 
        conv => whnf
        refine ⟨⟨⟩, rfl, ?_⟩
        conv => whnf
        refine branch_of (fun h5 => ?_) (fun h5 => ?_)
        · have h5 := of_decide_eq_true h5
          rw [if_pos (by dsimp only; omega)]
          conv => whnf
          refine ⟨[], rfl, ?_⟩
          conv => whnf
          exact ⟨⟨⟩, rfl, trivial⟩
        · have h5 := of_decide_eq_false h5
          rw [if_neg (by dsimp only; omega)]
          conv => whnf
          refine ⟨[], rfl, ?_⟩
          conv => whnf
          exact ⟨⟨⟩, rfl, trivial⟩
theorem begin_good (l : List Tok) (i : Int) (hl : l.length ≤ 1000000) : (0 ≤ i ∧ i ≤ l.length → Good Tryz.prog 89 [.sl 4 (toksV l), .int .i64 i] [] [.ptr 0 0 0, .int .i64 0] [(rd0 l i.toNat).ob]) ∧
    (¬ (0 ≤ i ∧ i ≤ l.length) → Good Tryz.prog 89 [.sl 4 (toksV l), .int .i64 i] [] [.ptr 0 0 0, .int .i64 1] [.box 0 [.nil, .int .i64 0, .bool false, .bool false, .bool false]]) := by
  constructor
  · rintro ⟨h0, h1⟩
    obtain ⟨n, rfl⟩ : ∃ n : Nat, i = n := ⟨i.toNat, by omega⟩
    refine good_of hP Tryz.func89 (by kernel_rfl) (lv := [0, 1, 4, 5, 13]) (js := []) ⟨rfl, rfl, rfl, rfl, rfl, rfl, _, rfl, ?_⟩
    conv => whnf
    refine branch_of (fun h => ?_) (fun h => ?_)
    · have h := of_decide_eq_true h
      rw [List.length_map] at h; omega
    conv => whnf
    refine ⟨[(83, 0)], rfl, ?_⟩
    conv => whnf
    exact ⟨⟨⟩, rfl, trivial⟩
  · intro h0
    refine good_of hP Tryz.func89 (by kernel_rfl) (lv := [0, 1, 4, 5, 13]) (js := []) ⟨rfl, rfl, rfl, rfl, rfl, rfl, _, rfl, ?_⟩
    conv => whnf
    refine branch_of (fun h => ?_) (fun h => ?_)
    · conv => whnf
      refine ⟨[(79, 0)], rfl, ?_⟩
      conv => whnf
      exact ⟨⟨⟩, rfl, trivial⟩
    have h := of_decide_eq_false h
    conv => whnf
    refine branch_of (fun h2 => ?_) (fun h2 => ?_)
    · conv => whnf
      refine ⟨[(79, 0)], rfl, ?_⟩
      conv => whnf
      exact ⟨⟨⟩, rfl, trivial⟩
    · have h2 := of_decide_eq_false h2
      rw [List.length_map] at h2; omega
theorem end_good (r : Rd) (a : Nat) : Good Tryz.prog 91 [.ptr 0 0 0, .int .i64 a] [r.ob] [.int .i64 (r.endI a), .int .i64 r.endE] [r.ob] := by
  obtain ⟨l, i, b, o, w⟩ := r
  refine good_of hP Tryz.func91 (by kernel_rfl) (lv := [0, 1, 4, 5, 6, 21]) (js := []) ⟨rfl, rfl, rfl, rfl, rfl, rfl, _, rfl, ?_⟩
  unfold Rd.endI Rd.endE
  cases b with
  | true =>
    conv => whnf
    refine ⟨by kernel_rfl, ?_⟩
    conv => whnf
    refine ⟨[], by dsimp only; rw [if_pos rfl, List.length_map]; congr 3; omega, ?_⟩
    conv => whnf
    exact ⟨⟨⟩, rfl, trivial⟩
  | false =>
    cases o with
    | true =>
      conv => whnf
      refine ⟨[], rfl, ?_⟩
      conv => whnf
      exact ⟨⟨⟩, rfl, trivial⟩
    | false =>
      cases w with
      | true =>
        conv => whnf
        refine ⟨[], rfl, ?_⟩
        conv => whnf
        exact ⟨⟨⟩, rfl, trivial⟩
      | false =>
        conv => whnf
        refine ⟨[], rfl, ?_⟩
        conv => whnf
        exact ⟨⟨⟩, rfl, trivial⟩
end Go.PV
namespace Go.PV
open Go
/-! expressions: their texts, their trees -/
def opT (k : Int) : Bs := if k = 3 then [43] else if k = 4 then [45] else [42]
def nodeT (k : Int) (a b : Bs) : Bs := [40] ++ a ++ [32] ++ opT k ++ [32] ++ b ++ [41]
/-- the stack of texts, the last one first -/
def xtGo : List Bs → List Stp → List Bs
  | st, [] => st
  | st, o :: r => if o.k ≤ 2 then xtGo (termT ⟨o.v, o.x⟩ :: st) r else match st with
    | b :: a :: st' => xtGo (nodeT o.k a b :: st') r
    | _ => []
theorem xt_push {o : Stp} (h : o.k ≤ 2) (st : List Bs) (r : List Stp) : xtGo st (o :: r) = xtGo (termT ⟨o.v, o.x⟩ :: st) r := by
  cases st with
  | nil => simp only [xtGo]; rw [if_pos h]
  | cons a st => cases st with
    | nil => simp only [xtGo]; rw [if_pos h]
    | cons b st => simp only [xtGo]; rw [if_pos h]
theorem xt_op {o : Stp} (h : ¬ o.k ≤ 2) (b a : Bs) (st : List Bs) (r : List Stp) : xtGo (b :: a :: st) (o :: r) = xtGo (nodeT o.k a b :: st) r := by
  simp only [xtGo]; rw [if_neg h]
def exprT (l : List Stp) : Bs := (xtGo [] l).headD []
theorem stpOk_k {o : Stp} (h : stpOk o = true) : 1 ≤ o.k ∧ o.k ≤ 5 := by
  unfold stpOk at h
  by_cases h1 : o.k = 1
  · omega
  · by_cases h2 : o.k = 2
    · omega
    · by_cases h3 : o.k = 3 ∨ o.k = 4 ∨ o.k = 5
      · omega
      · rw [if_neg h1, if_neg h2, if_neg h3] at h; cases h
theorem stpOk_push {o : Stp} (h : stpOk o = true) (hk : o.k ≤ 2) : termOk ⟨o.v, o.x⟩ = true ∧ o.k = if o.v = [] then 2 else 1 := by
  have := stpOk_k h
  unfold stpOk at h
  unfold termOk
  dsimp only
  by_cases h1 : o.k = 1
  · rw [if_pos h1, Bool.and_eq_true, decide_eq_true_eq] at h
    rw [if_neg (varS_ne h.1), if_neg (varS_ne h.1), h.1, h.2]; exact ⟨rfl, h1⟩
  · have h2 : o.k = 2 := by omega
    rw [if_neg h1, if_pos h2, Bool.and_eq_true, decide_eq_true_eq] at h
    rw [if_pos h.1, if_pos h.1]; exact ⟨h.2, h2⟩
theorem stpOk_op {o : Stp} (h : stpOk o = true) (hk : ¬ o.k ≤ 2) : (o.k = 3 ∨ o.k = 4 ∨ o.k = 5) ∧ o = ⟨o.k, [], zeroV⟩ := by
  have h5 := stpOk_k h
  have h3 : o.k = 3 ∨ o.k = 4 ∨ o.k = 5 := by omega
  unfold stpOk at h
  rw [if_neg (by omega), if_neg (by omega), if_pos h3, Bool.and_eq_true, decide_eq_true_eq, decide_eq_true_eq] at h
  obtain ⟨k, v, x⟩ := o
  exact ⟨h3, by rw [← h.1, ← h.2]⟩
/-- an expression's tree -/
inductive Tree where
  | leaf (t : Trm)
  | node (k : Int) (a b : Tree)
namespace Tree
def ops : Tree → List Stp
  | leaf t => [⟨if t.v = [] then 2 else 1, t.v, t.x⟩]
  | node k a b => a.ops ++ b.ops ++ [⟨k, [], zeroV⟩]
def ok : Tree → Bool
  | leaf t => termOk t
  | node k a b => decide (k = 3 ∨ k = 4 ∨ k = 5) && a.ok && b.ok
def txt : Tree → Bs
  | leaf t => termT t
  | node k a b => nodeT k a.txt b.txt
/-- its signs -/
def toks : Bs → Tree → List (Bs × KT)
  | b, leaf t => [(b, termK t)]
  | b, node k x y => (b, (5, [40])) :: (x.toks [] ++ ([32], (5, opT k)) :: (y.toks [32] ++ [([], (5, [41]))]))
def size : Tree → Nat
  | leaf _ => 1
  | node _ a b => a.size + b.size + 1
def deep : Tree → Nat
  | leaf _ => 0
  | node _ a b => max a.deep b.deep + 1
theorem ops_len : ∀ T : Tree, T.ops.length = T.size
  | leaf _ => rfl
  | node _ a b => by simp only [ops, size, List.length_append, List.length_cons, List.length_nil, ops_len a, ops_len b]
theorem deep_size : ∀ T : Tree, 2 * T.deep + 1 ≤ T.size
  | leaf _ => by simp [deep, size]
  | node _ a b => by
    have := deep_size a; have := deep_size b
    simp only [deep, size]; omega
theorem ops_ok : ∀ {T : Tree}, T.ok = true → ∀ (d : Nat) (r : List Stp), depGo d (T.ops ++ r) = depGo (d + 1) r
  | leaf t, h, d, r => by
    have hs : stpOk ⟨if t.v = [] then 2 else 1, t.v, t.x⟩ = true ∧ (if t.v = [] then (2 : Int) else 1) ≤ 2 := by
      unfold ok termOk at h
      unfold stpOk
      by_cases hv : t.v = []
      · rw [if_pos hv] at h ⊢; simp [hv, h]
      · rw [if_neg hv] at h ⊢
        rw [Bool.and_eq_true] at h
        simp [h.1]; simpa using h.2
    simp only [ops, List.cons_append, List.nil_append, depGo]
    rw [if_pos hs.1, if_pos hs.2]
  | node k a b, h, d, r => by
    simp only [ok, Bool.and_eq_true, decide_eq_true_eq] at h
    have hs : stpOk ⟨k, [], zeroV⟩ = true := by
      unfold stpOk; rw [if_neg (by dsimp only; omega), if_neg (by dsimp only; omega), if_pos h.1.1]; simp
    simp only [ops, List.append_assoc]
    rw [ops_ok h.1.2, ops_ok h.2]
    simp only [List.cons_append, List.nil_append, depGo]
    rw [if_pos hs, if_neg (by omega), if_neg (by omega)]
    rfl
theorem xt_ops : ∀ {T : Tree}, T.ok = true → ∀ (st : List Bs) (r : List Stp), xtGo st (T.ops ++ r) = xtGo (T.txt :: st) r
  | leaf t, h, st, r => by
    simp only [ops, List.cons_append, List.nil_append, xtGo]
    rw [if_pos (by split <;> omega)]; rfl
  | node k a b, h, st, r => by
    simp only [ok, Bool.and_eq_true, decide_eq_true_eq] at h
    simp only [ops, List.append_assoc]
    rw [xt_ops h.1.2, xt_ops h.2]
    simp only [List.cons_append, List.nil_append, xtGo]
    rw [if_neg (by omega)]; rfl
/-- right steps are a tree's: what the stack holds -/
theorem of_dep : ∀ (l : List Stp) (S : List Tree), (∀ T ∈ S, T.ok = true) → ∀ n, depGo S.length l = some n → ∃ S' : List Tree, S'.length = n ∧ (∀ T ∈ S', T.ok = true) ∧ S'.reverse.flatMap ops = S.reverse.flatMap ops ++ l
  | [], S, hS, n, h => by
    simp only [depGo, Option.some.injEq] at h
    exact ⟨S, h, hS, by simp⟩
  | o :: r, S, hS, n, h => by
    simp only [depGo] at h
    split at h
    · rename_i ho
      split at h
      · rename_i hk
        obtain ⟨h1, h2⟩ := stpOk_push ho hk
        obtain ⟨S', a1, a2, a3⟩ := of_dep r (leaf ⟨o.v, o.x⟩ :: S) (fun T hT => by
          rcases List.mem_cons.1 hT with rfl | hT
          · exact h1
          · exact hS T hT) n (by simpa using h)
        refine ⟨S', a1, a2, ?_⟩
        rw [a3, List.reverse_cons, List.flatMap_append]
        have : ops (leaf ⟨o.v, o.x⟩) = [o] := by obtain ⟨k, v, x⟩ := o; simp only [ops]; dsimp only at h2; rw [← h2]
        simp [this]
      · rename_i hk
        split at h
        · cases h
        · rename_i hd
          obtain ⟨h1, h2⟩ := stpOk_op ho hk
          match S, hS, hd, h with
          | [], _, hd, _ => simp at hd
          | [_], _, hd, _ => simp at hd
          | B :: A :: S, hS, _, h =>
            obtain ⟨S', a1, a2, a3⟩ := of_dep r (node o.k A B :: S) (fun T hT => by
              rcases List.mem_cons.1 hT with rfl | hT
              · simp only [ok, Bool.and_eq_true, decide_eq_true_eq]
                exact ⟨⟨h1, hS A (by simp)⟩, hS B (by simp)⟩
              · exact hS T (by simp [hT])) n (by simpa using h)
            refine ⟨S', a1, a2, ?_⟩
            rw [a3]
            simp only [List.reverse_cons, List.flatMap_append, List.flatMap_cons, List.flatMap_nil, ops, List.append_nil, List.append_assoc]
            rw [← h2]; rfl
    · cases h
/-- right steps are a tree's -/
theorem of_ok {l : List Stp} (h : exprOk l = true) : ∃ T : Tree, T.ok = true ∧ T.ops = l ∧ T.size ≤ 15 := by
  unfold exprOk at h
  simp only [Bool.and_eq_true, decide_eq_true_eq] at h
  obtain ⟨S, h1, h2, h3⟩ := of_dep l [] (by simp) 1 (by simpa using h.2)
  match S, h1 with
  | [T], _ =>
    have e : T.ops = l := by simpa using h3
    exact ⟨T, h2 T (by simp), e, by rw [← ops_len, e]; exact h.1.2⟩
theorem to_ok {T : Tree} (h : T.ok = true) (hs : T.size ≤ 15) : exprOk T.ops = true := by
  unfold exprOk
  have := ops_ok h 0 []
  rw [List.append_nil] at this
  rw [this, ops_len]
  have : 1 ≤ T.size := by have := deep_size T; omega
  simp [depGo, hs, this]
theorem exprT_ops {T : Tree} (h : T.ok = true) : exprT T.ops = T.txt := by
  have := xt_ops h [] []
  rw [List.append_nil] at this
  unfold exprT; rw [this]; rfl
theorem ops_inj : ∀ {A B : Tree}, A.ok = true → B.ok = true → A.ops = B.ops → A.txt = B.txt := fun ha hb h => by
  rw [← exprT_ops ha, ← exprT_ops hb, h]
theorem weave_toks : ∀ (T : Tree) (b : Bs), weaveK (T.toks b) = b ++ T.txt
  | leaf t, b => by simp [toks, weaveK, txt, termK_T]
  | node k x y, b => by
    simp only [toks, weaveK, weaveK_app, weave_toks x, weave_toks y, txt, nodeT]
    simp
theorem op_tk {k : Int} (h : k = 3 ∨ k = 4 ∨ k = 5) : Tk (5, opT k) := by
  rcases h with rfl | rfl | rfl <;> (unfold Tk; decide +kernel)
theorem txt_head : ∀ {T : Tree}, T.ok = true → ∃ c r, T.txt = c :: r ∧ c.toNat ≠ 61 ∧ c.toNat ≠ 62
  | leaf t, h => by
    simp only [txt, ← termK_T]
    exact tk_head (tk_term h) (termK_5 t)
  | node k x y, h => ⟨40, _, by simp only [txt, nodeT]; rfl, by decide, by decide⟩
theorem wov : ∀ {T : Tree}, T.ok = true → ∀ (b tail : Bs), blk b = true → stopH tail = true → WovK tail (T.toks b)
  | leaf t, h, b, tail, hb, ht => ⟨hb, tk_term h, okEnd_stop ht, trivial⟩
  | node k x y, h, b, tail, hb, ht => by
    simp only [ok, Bool.and_eq_true, decide_eq_true_eq] at h
    refine ⟨hb, rfl, ?_, WovK.app (wov h.1.2 [] _ rfl rfl) ⟨rfl, op_tk h.1.1, ?_, WovK.app (wov h.2 [32] _ rfl rfl) ⟨rfl, rfl, okEnd_stop ht, trivial⟩⟩⟩
    · rw [weaveK_app, weave_toks, List.nil_append, List.append_assoc]
      obtain ⟨c, r, e, h1, h2⟩ := txt_head h.1.2
      rw [e]; exact okEnd_sign (by decide) ⟨h1, h2⟩
    · rw [weaveK_app, weave_toks]; exact okEnd_stop rfl
end Tree
namespace Rd
theorem reckons_rest {r : Rd} {k : Int} {m : List KT} (ho : r.isOpen = true) (hk : k = 3 ∨ k = 4 ∨ k = 5) (hr : r.rest = (5, opT k) :: m) : r.reckons = (k, r.step) := by
  have hs := see_rest ho hr
  have hn : ∀ x : Bs, x ≠ opT k → r.see 5 x = false := fun x hx => see_no (x := (5, x)) (by rw [hr]; simp; exact fun h => hx h.symm)
  unfold reckons
  rcases hk with rfl | rfl | rfl
  · have hs : r.see 5 [43] = true := hs
    rw [if_pos hs]
  · have hs : r.see 5 [45] = true := hs
    rw [hn [43] (by decide), if_neg (by simp), if_pos hs]
  · have hs : r.see 5 [42] = true := hs
    rw [hn [43] (by decide), if_neg (by simp), hn [45] (by decide), if_neg (by simp), if_pos hs]
theorem part_rest : ∀ {T : Tree}, T.ok = true → ∀ (n : Nat) (r : Rd) (b : Bs) (m : List KT), T.deep ≤ n → r.isOpen = true → r.rest = (T.toks b).map (·.2) ++ m → r.part n = (T.ops, r.adv (T.toks b).length)
  | .leaf t, h, n, r, b, m, hd, ho, hr => by
    have hr : r.rest = termK t :: m := hr
    have hs : r.see 5 [40] = false := see_no (x := (5, [40])) (by rw [hr]; simp; intro e; exact absurd (congrArg Prod.fst e) (termK_5 t))
    have ht := term_rest ho hr h
    cases n <;> (unfold part; rw [if_neg (by rw [hs]; simp), ht]; rfl)
  | .node k x y, h, n, r, b, m, hd, ho, hr => by
    simp only [Tree.ok, Bool.and_eq_true, decide_eq_true_eq] at h
    simp only [Tree.deep] at hd
    obtain ⟨n, rfl⟩ : ∃ n', n = n' + 1 := ⟨n - 1, by omega⟩
    have hr : r.rest = (5, [40]) :: ((x.toks []).map (·.2) ++ ((5, opT k) :: ((y.toks [32]).map (·.2) ++ ((5, [41]) :: m)))) := by
      rw [hr]; simp [Tree.toks]
    have h1 := rest_cons hr
    have adv_rest : ∀ {q : Rd} {a c : List KT}, q.rest = a ++ c → (q.adv a.length).rest = c := fun {q a c} e => by
      unfold rest at e ⊢
      unfold adv
      dsimp only
      rw [← List.drop_drop, List.map_drop, e, List.drop_left]
    have hx := part_rest h.1.2 n r.step [] _ (by omega) ho h1.2
    have h2 := adv_rest h1.2
    rw [List.length_map] at h2
    have hk := reckons_rest (r := r.step.adv (x.toks []).length) ho h.1.1 h2
    have h3 := (rest_cons h2).2
    have hy := part_rest h.2 n (r.step.adv (x.toks []).length).step [32] _ (by omega) ho h3
    have h4 := adv_rest h3
    rw [List.length_map] at h4
    have hw := want_rest (r := (r.step.adv (x.toks []).length).step.adv (y.toks [32]).length) ho (x := (5, [41])) h4
    rw [part, if_pos (see_rest ho hr)]
    dsimp only
    rw [hx]
    dsimp only
    rw [hk]
    dsimp only
    have ho2 : (r.step.adv (x.toks []).length).step.isOpen = true := ho
    have hw : ((r.step.adv (x.toks []).length).step.adv (y.toks [32]).length).want 5 [41] = ((r.step.adv (x.toks []).length).step.adv (y.toks [32]).length).step := hw
    rw [if_pos ho2, hy]
    dsimp only
    rw [hw]
    simp only [Tree.ops, Tree.toks, adv, step, List.length_cons, List.length_append, List.length_nil]
    congr 2; omega
theorem expr_rest {r : Rd} {T : Tree} {b : Bs} {m : List KT} (h : T.ok = true) (hs : T.size ≤ 15) (ho : r.isOpen = true) (hr : r.rest = (T.toks b).map (·.2) ++ m) : r.expr = (T.ops, r.adv (T.toks b).length) := by
  have hd := T.deep_size
  unfold expr
  rw [if_pos ho, part_rest h 15 r b m (by omega) ho hr]
  dsimp only
  rw [if_neg (by rw [Tree.ops_len]; omega)]
theorem reckons_l (r : Rd) : r.reckons.2.l = r.l ∧ r.i ≤ r.reckons.2.i := by
  unfold reckons
  split
  · exact ⟨rfl, Nat.le_succ _⟩
  · split
    · exact ⟨rfl, Nat.le_succ _⟩
    · split
      · exact ⟨rfl, Nat.le_succ _⟩
      · dsimp only; split <;> exact ⟨rfl, Nat.le_refl _⟩
theorem part_l : ∀ (n : Nat) (r : Rd), (r.part n).2.l = r.l ∧ r.i ≤ (r.part n).2.i
  | 0, r => by
    unfold part
    split
    · exact ⟨rfl, Nat.le_succ _⟩
    · have := term_l r; exact ⟨this.1, this.2.1⟩
  | n + 1, r => by
    unfold part
    split
    · have h1 := part_l n r.step
      have h2 := reckons_l (r.step.part n).2
      have h3 := part_l n (r.step.part n).2.reckons.2
      have h4 := want_l ((r.step.part n).2.reckons.2.part n).2 5 [41]
      have h5 : r.i + 1 ≤ (r.step.part n).2.i := h1.2
      dsimp only
      split
      · exact ⟨h4.1.trans (h3.1.trans (h2.1.trans h1.1)), by dsimp only; omega⟩
      · exact ⟨h2.1.trans h1.1, by dsimp only; omega⟩
    · have := term_l r; exact ⟨this.1, this.2.1⟩
theorem part_len : ∀ (n : Nat) (r : Rd), (r.part n).1.length + 1 ≤ 2 ^ (n + 1)
  | 0, r => by
    unfold part
    split <;> simp
  | n + 1, r => by
    have hp : 2 ≤ 2 ^ (n + 1) := by have := Nat.one_le_two_pow (n := n); rw [Nat.pow_succ]; omega
    unfold part
    split
    · have h1 := part_len n r.step
      have h3 := part_len n (r.step.part n).2.reckons.2
      dsimp only
      split
      · simp only [List.length_append, List.length_cons, List.length_nil]
        rw [Nat.pow_succ]; omega
      · rw [Nat.pow_succ]; simp; omega
    · rw [Nat.pow_succ]; simp; omega
theorem expr_l (r : Rd) : r.expr.2.l = r.l ∧ r.i ≤ r.expr.2.i := by
  unfold expr
  split
  · have := part_l 15 r
    dsimp only
    split <;> exact this
  · exact ⟨rfl, Nat.le_refl _⟩
theorem reckons_open {r : Rd} (h : r.reckons.2.isOpen = true) : r.isOpen = true ∧ (r.reckons.1 = 3 ∨ r.reckons.1 = 4 ∨ r.reckons.1 = 5) ∧ r.reckons.2 = r.step ∧ r.i < r.l.length := by
  unfold reckons at *
  split at h
  · rename_i hs; rw [if_pos hs]; exact ⟨(see_open hs).1, .inl rfl, rfl, cur_lt (see_open hs).2⟩
  · rename_i h1
    rw [if_neg h1]
    split at h
    · rename_i hs; rw [if_pos hs]; exact ⟨(see_open hs).1, .inr (.inl rfl), rfl, cur_lt (see_open hs).2⟩
    · rename_i h2
      rw [if_neg h2]
      split at h
      · rename_i hs; rw [if_pos hs]; exact ⟨(see_open hs).1, .inr (.inr rfl), rfl, cur_lt (see_open hs).2⟩
      · dsimp only at h
        split at h
        · simp [fail, isOpen] at h
        · rename_i h4; exact absurd h h4
theorem part_open : ∀ (n : Nat) (r : Rd), (r.part n).2.isOpen = true → r.isOpen = true ∧ (∃ T : Tree, T.ok = true ∧ T.ops = (r.part n).1) ∧ r.i < (r.part n).2.i ∧ (r.part n).2.i ≤ r.l.length ∧ (r.part n).2.wrong = r.wrong
  | 0, r, h => by
    unfold part at *
    split at h
    · simp [isOpen] at h
    · rename_i hs
      rw [if_neg hs]
      dsimp only at h ⊢
      obtain ⟨h1, h2, h3, h4⟩ := term_open h
      rw [h3]
      exact ⟨h1, ⟨.leaf r.term.1, h2, rfl⟩, by simp [step], by simp [step]; omega, rfl⟩
  | n + 1, r, h => by
    unfold part at *
    split at h
    · rename_i hs
      rw [if_pos hs]
      dsimp only at h ⊢
      split at h
      · rename_i hb
        rw [if_pos hb]
        dsimp only at h ⊢
        obtain ⟨w1, w2, w3⟩ := want_open h
        obtain ⟨c1, ⟨C, c2, c3⟩, c4, c5, c6⟩ := part_open n _ w1
        obtain ⟨b1, b2, b3, b4⟩ := reckons_open hb
        obtain ⟨a1, ⟨A, a2, a3⟩, a4, a5, a6⟩ := part_open n _ b1
        have hl1 := (part_l n r.step).1
        have hl2 := (reckons_l (r.step.part n).2).1
        have hl3 := (part_l n (r.step.part n).2.reckons.2).1
        refine ⟨(see_open hs).1, ⟨.node (r.step.part n).2.reckons.1 A C, by simp [Tree.ok, b2, a2, c2], by simp only [Tree.ops, a3, c3]⟩, ?_, ?_, ?_⟩
        · rw [w2]
          have h5 : r.i + 1 < (r.step.part n).2.i := a4
          have h6 : (r.step.part n).2.reckons.2.i = (r.step.part n).2.i + 1 := by rw [b3]; rfl
          show r.i < _ + 1
          omega
        · rw [w2]
          show _ + 1 ≤ _
          rw [hl3, hl2, hl1] at w3
          exact w3
        · rw [w2]
          show ((r.step.part n).2.reckons.2.part n).2.wrong = _
          rw [c6, b3]; exact a6
      · rename_i hb; exact absurd h hb
    · rename_i hs
      rw [if_neg hs]
      dsimp only at h ⊢
      obtain ⟨h1, h2, h3, h4⟩ := term_open h
      rw [h3]
      exact ⟨h1, ⟨.leaf r.term.1, h2, rfl⟩, by simp [step], by simp [step]; omega, rfl⟩
theorem expr_open {r : Rd} (h : r.expr.2.isOpen = true) : (r.expr.2.wrong = false → exprOk r.expr.1 = true) ∧ r.expr.2.l = r.l ∧ r.i < r.expr.2.i ∧ r.expr.2.i ≤ r.l.length := by
  have hl := expr_l r
  unfold expr at *
  split at h
  · rename_i ho
    rw [if_pos ho] at hl ⊢
    dsimp only at h hl ⊢
    have hp : (r.part 15).2.isOpen = true := by
      split at h
      · exact h
      · exact h
    obtain ⟨p1, ⟨T, p2, p3⟩, p4, p5, p6⟩ := part_open 15 r hp
    refine ⟨fun hw => ?_, hl.1, ?_, ?_⟩
    · have : ¬ 15 < (r.part 15).1.length := fun hlt => by rw [if_pos hlt] at hw; cases hw
      rw [← p3]
      rw [← p3, Tree.ops_len] at this
      exact Tree.to_ok p2 (by omega)
    · split <;> exact p4
    · split <;> exact p5
  · rename_i ho; exact absurd h ho
end Rd
theorem readX_ok {l : List Tok} {i : Nat} (h : (readX l i).2.2 = 0) : exprOk (readX l i).1 = true ∧ i < (readX l i).2.1 ∧ (readX l i).2.1 ≤ l.length := by
  unfold readX at *
  dsimp only at h ⊢
  obtain ⟨h1, h2, h3⟩ := endE_0 h
  obtain ⟨k1, k2, k3, k4⟩ := Rd.expr_open h1
  rw [if_pos h, h3]
  exact ⟨k1 h2, k3, k4⟩
theorem readX_back {l : List Tok} {i : Nat} {T : Tree} {b : Bs} {m : List KT} (h : T.ok = true) (hs : T.size ≤ 15) (hr : (l.drop i).map kt = (T.toks b).map (·.2) ++ m) : readX l i = (T.ops, i + (T.toks b).length, 0) := by
  have e := Rd.expr_rest (r := rd0 l i) h hs rfl hr
  unfold readX
  rw [e]; rfl
theorem readX_place {l : List Tok} {i : Nat} (h : i ≤ l.length) : i ≤ (readX l i).2.1 ∧ (readX l i).2.1 ≤ l.length ∧ ((readX l i).2.2 = 0 ∨ (readX l i).2.2 = 7) := by
  have hl := Rd.expr_l (rd0 l i)
  have h0 : (readX l i).2.2 = 0 ∨ (readX l i).2.2 = 7 := by
    unfold readX Rd.endE; dsimp only; split <;> simp
  refine ⟨?_, ?_, h0⟩
  · unfold readX Rd.endI; dsimp only
    have h2 : i ≤ (rd0 l i).expr.2.i := hl.2
    have h3 : (rd0 l i).expr.2.l = l := hl.1
    split
    · rw [h3]; omega
    · split
      · omega
      · exact h2
  · rcases h0 with h0 | h0
    · exact (readX_ok h0).2.2
    · unfold readX Rd.endI Rd.endE at *; dsimp only at *
      have h3 : (rd0 l i).expr.2.l = l := hl.1
      split
      · rw [h3]; omega
      · rename_i hb
        split
        · exact h
        · rename_i hc
          rw [if_neg] at h0
          · omega
          · simp only [Bool.or_eq_true] at hc ⊢; simp only [not_or] at hc; simp_all
theorem readA_place {l : List Tok} {i : Nat} (h : i ≤ l.length) : i ≤ (readA l i).2.1 ∧ (readA l i).2.1 ≤ l.length ∧ ((readA l i).2.2 = 0 ∨ (readA l i).2.2 = 7) := by
  have hl := Rd.atom_l (rd0 l i)
  have h0 : (readA l i).2.2 = 0 ∨ (readA l i).2.2 = 7 := by
    unfold readA Rd.endE; dsimp only; split <;> simp
  refine ⟨?_, ?_, h0⟩
  · unfold readA Rd.endI; dsimp only
    have h2 : i ≤ (rd0 l i).atom.2.i := hl.2
    have h3 : (rd0 l i).atom.2.l = l := hl.1
    split
    · rw [h3]; omega
    · split
      · omega
      · exact h2
  · rcases h0 with h0 | h0
    · exact (readA_ok h0).2.2
    · unfold readA Rd.endI Rd.endE at *; dsimp only at *
      have h3 : (rd0 l i).atom.2.l = l := hl.1
      split
      · rw [h3]; omega
      · rename_i hb
        split
        · exact h
        · rename_i hc
          rw [if_neg] at h0
          · omega
          · simp only [Bool.or_eq_true] at hc ⊢; simp only [not_or] at hc; simp_all
end Go.PV
namespace Go.PV
open Go Go.Proofs
set_option maxRecDepth 100000
theorem readA_good (l : List Tok) (i : Nat) (hb : tokB l) (hi : i ≤ l.length) : Good Tryz.prog 128 [.sl 4 (toksV l), .int .i64 i] [] [.agg (readA l i).1.c, .int .i64 (readA l i).2.1, .int .i64 (readA l i).2.2] [] := by
  refine good_of hP Tryz.func128 (by kernel_rfl) (lv := [0, 1, 4, 5, 6, 7, 15, 27]) (js := []) ⟨rfl, rfl, rfl, rfl, rfl, rfl, _, rfl, ?_⟩
  unfold readA
  dsimp only
  conv => whnf
  refine call0 ((begin_good l i hb.1).1 ⟨by omega, by omega⟩) ?_
  conv => whnf
  refine callN [(1728, 0)] (ratom_good (rd0 l i) hb) ?_ 
  conv => whnf
  refine ⟨⟨⟩, rfl, ?_⟩
  conv => whnf
  refine callN [(1728, 0)] (end_good (rd0 l i).atom.2 i) ?_ 
  conv => whnf
  refine ⟨⟨⟩, rfl, ?_⟩
  generalize (rd0 l i).atom = x
  by_cases he : x.2.endE = 0
  · rw [he, if_pos rfl]
    conv => whnf
    exact fin0 rfl trivial
  · rw [if_neg he]
    conv => whnf
    refine branch_of (fun h => ?_) (fun h => ?_)
    · conv => whnf
      exact fin0 rfl trivial
    · exact absurd (of_decide_eq_true (by simpa using h)) he
theorem readA_bad (l : List Tok) (i : Int) (hl : l.length ≤ 1000000) (hi : ¬ (0 ≤ i ∧ i ≤ l.length)) : Good Tryz.prog 128 [.sl 4 (toksV l), .int .i64 i] [] [.agg zeroA.c, .int .i64 0, .int .i64 1] [] := by
  refine good_of hP Tryz.func128 (by kernel_rfl) (lv := [0, 1, 4, 5, 6, 7, 15, 27]) (js := []) ⟨rfl, rfl, rfl, rfl, rfl, rfl, _, rfl, ?_⟩
  conv => whnf
  refine call0 ((begin_good l i hl).2 hi) ?_
  conv => whnf
  exact fin0 rfl trivial
theorem list_eq_of {α : Type} {a b : List α} (hl : a.length = b.length) (h : ∀ j (h1 : j < a.length) (h2 : j < b.length), a[j] = b[j]) : a = b := List.ext_getElem hl h
theorem keepOps_good (a b : List Stp) (ha : a.length ≤ 1000000) : Good Tryz.prog 183 [.sl 5 (stpV a), .sl 5 (stpV b)] [] [.bool (decide (a = b))] [] := by
  refine good_of hP Tryz.func183 (by kernel_rfl) (lv := [0, 1, 4, 5, 10, 14, 25]) (js := []) ⟨rfl, rfl, rfl, rfl, rfl, rfl, _, rfl, ?_⟩
  conv => whnf
  refine branch_of (fun h => ?_) (fun h => ?_)
  · rw [Bool.not_eq_true'] at h
    have h := of_decide_eq_false h
    rw [List.length_map, List.length_map] at h
    conv => whnf
    exact fin0 (by rw [decide_eq_false (by rintro rfl; exact h rfl)]) trivial
  rw [Bool.not_eq_false'] at h
  have h := of_decide_eq_true h
  rw [List.length_map, List.length_map] at h
  have hl : a.length = b.length := by omega
  conv => whnf
  refine loop_of hP [0, 1, 4, 5, 10, 14, 25] [] [0, 1, 5] [] [] (fun n st => ∃ k : Nat, n = a.length - k ∧ k ≤ a.length ∧ (∀ j (h1 : j < a.length) (h2 : j < b.length), j < k → a[j] = b[j]) ∧ st = ⟨[(0, .sl 5 (stpV a)), (1, .sl 5 (stpV b)), (5, .int .i64 k)], []⟩) a.length ?_ ?_
  · conv => whnf
    exact ⟨0, rfl, Nat.zero_le _, fun j _ _ h => by omega, rfl⟩
  · rintro n st ⟨k, rfl, hk, hn, rfl⟩
    conv => whnf
    refine branch_of (fun h => ?_) (fun h => ?_)
    · have h := of_decide_eq_true h
      rw [List.length_map] at h
      have hk' : k < a.length := by omega
      have hk2 : k < b.length := by omega
      conv => whnf
      refine ⟨Stp.c a[k], idxM hk' rfl, ?_⟩
      conv => whnf
      refine ⟨Stp.c b[k], idxM hk2 rfl, ?_⟩
      conv => whnf
      refine ⟨_, (eqStp a[k] b[k]).2, ?_⟩
      conv => whnf
      refine ⟨by kernel_rfl, ?_⟩
      conv => whnf
      refine branch_of (fun h2 => ?_) (fun h2 => ?_)
      · rw [Bool.not_eq_true'] at h2
        have h2 := of_decide_eq_false h2
        conv => whnf
        exact fin0 (by rw [decide_eq_false (by rintro rfl; exact h2 rfl)]) trivial
      · rw [Bool.not_eq_false'] at h2
        have h2 := of_decide_eq_true h2
        conv => whnf
        refine ⟨a.length - (k + 1), by omega, k + 1, rfl, by omega, fun j h1 h3 hj => ?_, ?_⟩
        · by_cases e : j = k
          · subst e; exact h2
          · exact hn j h1 h3 (by omega)
        · rw [wr (by omega) (by omega)]; rfl
    · have h := of_decide_eq_false h
      rw [List.length_map] at h
      conv => whnf
      exact fin0 (by rw [decide_eq_true (list_eq_of hl fun j h1 h2 => hn j h1 h2 (by omega))]) trivial
theorem keepAtom_good (a b : Atm) (ha : a.a.length ≤ 1000000) : Good Tryz.prog 99 [.agg a.c, .agg b.c] [] [.bool (decide (a = b))] [] := by
  obtain ⟨na, a⟩ := a
  obtain ⟨nb, b⟩ := b
  dsimp only at ha
  refine good_of hP Tryz.func99 (by kernel_rfl) (lv := [0, 1, 2, 3, 4, 5, 19, 24, 37]) (js := []) ⟨rfl, rfl, rfl, rfl, rfl, rfl, _, rfl, ?_⟩
  conv => whnf
  refine branch_of (fun h => ?_) (fun h => ?_)
  · rw [Bool.not_eq_true'] at h
    have h : ¬ na = nb := of_decide_eq_false h
    conv => whnf
    exact fin0 (by rw [decide_eq_false (by intro e; injection e with e _; exact h e)]) trivial
  rw [Bool.not_eq_false'] at h
  have hnm : na = nb := of_decide_eq_true h
  conv => whnf
  refine branch_of (fun h => ?_) (fun h => ?_)
  · rw [Bool.not_eq_true'] at h
    have h := of_decide_eq_false h
    rw [List.length_map, List.length_map] at h
    conv => whnf
    exact fin0 (by rw [decide_eq_false (by intro e; injection e with _ e; subst e; exact h rfl)]) trivial
  rw [Bool.not_eq_false'] at h
  have h := of_decide_eq_true h
  rw [List.length_map, List.length_map] at h
  have hl : a.length = b.length := by dsimp only at h; omega
  conv => whnf
  refine loop_of hP [0, 1, 2, 3, 4, 5, 19, 24, 37] [] [2, 3, 5] [66, 67] [] (fun n st => ∃ k : Nat, n = a.length - k ∧ k ≤ a.length ∧ (∀ j (h1 : j < a.length) (h2 : j < b.length), j < k → a[j] = b[j]) ∧ st = ⟨[(2, .ptr 66 0 0), (3, .ptr 67 0 0), (5, .int .i64 k)], [(66, .box 0 [.str na, .sl 4 (trmV a)]), (67, .box 0 [.str nb, .sl 4 (trmV b)])]⟩) a.length ?_ ?_
  · conv => whnf
    exact ⟨0, rfl, Nat.zero_le _, fun j _ _ h => by omega, rfl⟩
  · rintro n st ⟨k, rfl, hk, hn, rfl⟩
    conv => whnf
    refine branch_of (fun h => ?_) (fun h => ?_)
    · have h := of_decide_eq_true h
      rw [List.length_map] at h
      have hk' : k < a.length := by omega
      have hk2 : k < b.length := by omega
      conv => whnf
      refine ⟨Trm.c a[k], idxM hk' rfl, ?_⟩
      conv => whnf
      refine ⟨Trm.c b[k], idxM hk2 rfl, ?_⟩
      conv => whnf
      refine ⟨_, (eqTrm a[k] b[k]).2, ?_⟩
      conv => whnf
      refine ⟨by kernel_rfl, ?_⟩
      conv => whnf
      refine branch_of (fun h2 => ?_) (fun h2 => ?_)
      · rw [Bool.not_eq_true'] at h2
        have h2 := of_decide_eq_false h2
        conv => whnf
        exact fin0 (by rw [decide_eq_false (by intro e; injection e with _ e; subst e; exact h2 rfl)]) trivial
      · rw [Bool.not_eq_false'] at h2
        have h2 := of_decide_eq_true h2
        conv => whnf
        refine ⟨a.length - (k + 1), by omega, k + 1, rfl, by omega, fun j h1 h3 hj => ?_, ?_⟩
        · by_cases e : j = k
          · subst e; exact h2
          · exact hn j h1 h3 (by omega)
        · rw [wr (by omega) (by omega)]; rfl
    · have h := of_decide_eq_false h
      rw [List.length_map] at h
      conv => whnf
      exact fin0 (by rw [decide_eq_true (by rw [hnm, list_eq_of hl fun j h1 h2 => hn j h1 h2 (by omega)])]) trivial
/-! what is played -/
def trmH (t : Trm) : Bool := decide (200 < t.v.length) || decide (200 < t.x.s.length)
def atmH (a : Atm) : Bool := decide (200 < a.n.length) || decide (20 < a.a.length) || a.a.any trmH
def stpH (o : Stp) : Bool := decide (200 < o.v.length) || decide (200 < o.x.s.length)
def opsH (l : List Stp) : Bool := decide (40 < l.length) || l.any stpH
def tokH (t : Tok) : Bool := decide (200 < t.t.length)
def toksH (l : List Tok) : Bool := decide (300 < l.length) || l.any tokH
theorem anyL_step {α : Type} {p : α → Bool} {l : List α} {k : Nat} (h : k < l.length) : (l.drop k).any p = (p l[k] || (l.drop (k + 1)).any p) := by
  rw [List.drop_eq_getElem_cons h]; rfl
theorem anyL_end {α : Type} {p : α → Bool} {l : List α} {k : Nat} (h : l.length ≤ k) : (l.drop k).any p = false := by
  rw [List.drop_eq_nil_iff.2 h]; rfl
theorem heavyA_good (a : Atm) : Good Tryz.prog 33 [.agg a.c] [] [.bool (atmH a)] [] := by
  obtain ⟨na, a⟩ := a
  refine good_of hP Tryz.func33 (by kernel_rfl) (lv := [0, 1, 2, 3, 13, 18, 39]) (js := []) ⟨rfl, rfl, rfl, rfl, rfl, rfl, _, rfl, ?_⟩
  unfold atmH
  dsimp only
  conv => whnf
  refine branch_of (fun h => ?_) (fun h => ?_)
  · have h : 200 < na.length := by have := of_decide_eq_true h; dsimp only at this; omega
    conv => whnf
    exact fin0 (by simp [h]) trivial
  have h1 : ¬ 200 < na.length := by have := of_decide_eq_false h; dsimp only at this; omega
  rw [decide_eq_false h1]
  conv => whnf
  refine branch_of (fun h => ?_) (fun h => ?_)
  · have h := of_decide_eq_true h
    rw [List.length_map] at h
    have h : 20 < a.length := by dsimp only at h; omega
    conv => whnf
    exact fin0 (by simp [h]) trivial
  have h := of_decide_eq_false h
  rw [List.length_map] at h
  have h2 : ¬ 20 < a.length := by dsimp only at h; omega
  rw [decide_eq_false h2]
  conv => whnf
  refine loop_of hP [0, 1, 2, 3, 13, 18, 39] [] [1, 3] [65] [] (fun n st => ∃ k : Nat, n = a.length - k ∧ k ≤ a.length ∧ a.any trmH = (a.drop k).any trmH ∧ st = ⟨[(1, .ptr 65 0 0), (3, .int .i64 k)], [(65, .box 0 [.str na, .sl 4 (trmV a)])]⟩) a.length ?_ ?_
  · conv => whnf
    exact ⟨0, rfl, Nat.zero_le _, rfl, rfl⟩
  · rintro n st ⟨k, rfl, hk, he, rfl⟩
    conv => whnf
    refine branch_of (fun h => ?_) (fun h => ?_)
    · have h := of_decide_eq_true h
      rw [List.length_map] at h
      have hk' : k < a.length := by omega
      rw [anyL_step hk'] at he
      conv => whnf
      refine ⟨Trm.c a[k], idxM hk' rfl, ?_⟩
      conv => whnf
      refine branch_of (fun h3 => ?_) (fun h3 => ?_)
      · have h3 : 200 < a[k].v.length := by have := of_decide_eq_true h3; omega
        conv => whnf
        exact fin0 (by rw [he, trmH]; simp [h3]) trivial
      have h3 : ¬ 200 < a[k].v.length := by have := of_decide_eq_false h3; omega
      conv => whnf
      refine ⟨Trm.c a[k], idxM hk' rfl, ?_⟩
      conv => whnf
      refine branch_of (fun h4 => ?_) (fun h4 => ?_)
      · have h4 : 200 < a[k].x.s.length := by have := of_decide_eq_true h4; omega
        conv => whnf
        exact fin0 (by rw [he, trmH]; simp [h4]) trivial
      have h4 : ¬ 200 < a[k].x.s.length := by have := of_decide_eq_false h4; omega
      rw [trmH, decide_eq_false h3, decide_eq_false h4] at he
      conv => whnf
      refine ⟨a.length - (k + 1), by omega, k + 1, rfl, by omega, by simpa using he, ?_⟩
      rw [wr (by omega) (by omega)]; rfl
    · have h := of_decide_eq_false h
      rw [List.length_map] at h
      conv => whnf
      exact fin0 (by rw [he, anyL_end (by omega)]; rfl) trivial
theorem heavyX_good (l : List Stp) : Good Tryz.prog 106 [.sl 5 (stpV l)] [] [.bool (opsH l)] [] := by
  refine good_of hP Tryz.func106 (by kernel_rfl) (lv := [0, 2, 3, 6, 10, 29]) (js := []) ⟨rfl, rfl, rfl, rfl, rfl, rfl, _, rfl, ?_⟩
  unfold opsH
  conv => whnf
  refine branch_of (fun h => ?_) (fun h => ?_)
  · have h := of_decide_eq_true h
    rw [List.length_map] at h
    have h : 40 < l.length := by omega
    conv => whnf
    exact fin0 (by simp [h]) trivial
  have h := of_decide_eq_false h
  rw [List.length_map] at h
  have h2 : ¬ 40 < l.length := by omega
  rw [decide_eq_false h2]
  conv => whnf
  refine loop_of hP [0, 2, 3, 6, 10, 29] [] [0, 3] [] [] (fun n st => ∃ k : Nat, n = l.length - k ∧ k ≤ l.length ∧ l.any stpH = (l.drop k).any stpH ∧ st = ⟨[(0, .sl 5 (stpV l)), (3, .int .i64 k)], []⟩) l.length ?_ ?_
  · conv => whnf
    exact ⟨0, rfl, Nat.zero_le _, rfl, rfl⟩
  · rintro n st ⟨k, rfl, hk, he, rfl⟩
    conv => whnf
    refine branch_of (fun h => ?_) (fun h => ?_)
    · have h := of_decide_eq_true h
      rw [List.length_map] at h
      have hk' : k < l.length := by omega
      rw [anyL_step hk'] at he
      conv => whnf
      refine ⟨Stp.c l[k], idxM hk' rfl, ?_⟩
      conv => whnf
      refine branch_of (fun h3 => ?_) (fun h3 => ?_)
      · have h3 : 200 < l[k].v.length := by have := of_decide_eq_true h3; omega
        conv => whnf
        exact fin0 (by rw [he, stpH]; simp [h3]) trivial
      have h3 : ¬ 200 < l[k].v.length := by have := of_decide_eq_false h3; omega
      conv => whnf
      refine ⟨Stp.c l[k], idxM hk' rfl, ?_⟩
      conv => whnf
      refine branch_of (fun h4 => ?_) (fun h4 => ?_)
      · have h4 : 200 < l[k].x.s.length := by have := of_decide_eq_true h4; omega
        conv => whnf
        exact fin0 (by rw [he, stpH]; simp [h4]) trivial
      have h4 : ¬ 200 < l[k].x.s.length := by have := of_decide_eq_false h4; omega
      rw [stpH, decide_eq_false h3, decide_eq_false h4] at he
      conv => whnf
      refine ⟨l.length - (k + 1), by omega, k + 1, rfl, by omega, by simpa using he, ?_⟩
      rw [wr (by omega) (by omega)]; rfl
    · have h := of_decide_eq_false h
      rw [List.length_map] at h
      conv => whnf
      exact fin0 (by rw [he, anyL_end (by omega)]; rfl) trivial
theorem heavyT_good (l : List Tok) : Good Tryz.prog 36 [.sl 4 (toksV l)] [] [.bool (toksH l)] [] := by
  refine good_of hP Tryz.func36 (by kernel_rfl) (lv := [0, 2, 3, 6, 10, 19]) (js := []) ⟨rfl, rfl, rfl, rfl, rfl, rfl, _, rfl, ?_⟩
  unfold toksH
  conv => whnf
  refine branch_of (fun h => ?_) (fun h => ?_)
  · have h := of_decide_eq_true h
    rw [List.length_map] at h
    have h : 300 < l.length := by omega
    conv => whnf
    exact fin0 (by simp [h]) trivial
  have h := of_decide_eq_false h
  rw [List.length_map] at h
  have h2 : ¬ 300 < l.length := by omega
  rw [decide_eq_false h2]
  conv => whnf
  refine loop_of hP [0, 2, 3, 6, 10, 19] [] [0, 3] [] [] (fun n st => ∃ k : Nat, n = l.length - k ∧ k ≤ l.length ∧ l.any tokH = (l.drop k).any tokH ∧ st = ⟨[(0, .sl 4 (toksV l)), (3, .int .i64 k)], []⟩) l.length ?_ ?_
  · conv => whnf
    exact ⟨0, rfl, Nat.zero_le _, rfl, rfl⟩
  · rintro n st ⟨k, rfl, hk, he, rfl⟩
    conv => whnf
    refine branch_of (fun h => ?_) (fun h => ?_)
    · have h := of_decide_eq_true h
      rw [List.length_map] at h
      have hk' : k < l.length := by omega
      rw [anyL_step hk'] at he
      conv => whnf
      refine ⟨Tok.c l[k], idxM hk' rfl, ?_⟩
      conv => whnf
      refine branch_of (fun h3 => ?_) (fun h3 => ?_)
      · have h3 : 200 < l[k].t.length := by have := of_decide_eq_true h3; omega
        conv => whnf
        exact fin0 (by rw [he, tokH]; simp [h3]) trivial
      have h3 : ¬ 200 < l[k].t.length := by have := of_decide_eq_false h3; omega
      rw [tokH, decide_eq_false h3] at he
      conv => whnf
      refine ⟨l.length - (k + 1), by omega, k + 1, rfl, by omega, by simpa using he, ?_⟩
      rw [wr (by omega) (by omega)]; rfl
    · have h := of_decide_eq_false h
      rw [List.length_map] at h
      conv => whnf
      exact fin0 (by rw [he, anyL_end (by omega)]; rfl) trivial
end Go.PV
namespace Go.PV
open Go Go.Proofs
set_option maxRecDepth 100000
theorem pushes_good (k : Int) : Good Tryz.prog 228 [.int .i64 k] [] [.bool (decide (k = 1 ∨ k = 2))] [] := by
  refine good_of hP Tryz.func228 (by kernel_rfl) (lv := [0, 2]) (js := []) ⟨rfl, rfl, rfl, rfl, rfl, rfl, _, rfl, ?_⟩
  conv => whnf
  refine branch_of (fun h => ?_) (fun h => ?_)
  · have h := of_decide_eq_true h
    conv => whnf
    exact fin0 (by simp [h]) trivial
  · have h := of_decide_eq_false h
    conv => whnf
    exact fin0 (by simp [h]) trivial
def stpB (o : Stp) : Prop := o.v.length ≤ 1000000 ∧ o.x.s.length ≤ 1000000
def opsB (l : List Stp) : Prop := l.length ≤ 1000000 ∧ ∀ o ∈ l, stpB o
theorem xright_good (o : Stp) (hb : stpB o) : Good Tryz.prog 227 [.agg o.c] [] [.bool (stpOk o)] [] := by
  obtain ⟨k, v, x⟩ := o
  obtain ⟨h1, h2⟩ := hb
  dsimp only at h1 h2
  refine good_of hP Tryz.func227 (by kernel_rfl) (lv := [0, 1, 2, 4, 5, 16, 27]) (js := [27]) ⟨rfl, rfl, rfl, rfl, rfl, rfl, _, rfl, ?_⟩
  unfold stpOk
  dsimp only
  conv => whnf
  refine branch_of (fun h => ?_) (fun h => ?_)
  · have h : k = 1 := of_decide_eq_true h
    rw [if_pos h]
    conv => whnf
    refine call0 (svar_good v h1) ?_
    cases varS v with
    | false =>
      conv => whnf
      exact fin0 rfl trivial
    | true =>
      conv => whnf
      refine ⟨_, (eqVal x zeroV).1, ?_⟩
      conv => whnf
      exact fin0 rfl trivial
  have h : ¬ k = 1 := of_decide_eq_false h
  rw [if_neg h]
  conv => whnf
  refine branch_of (fun h3 => ?_) (fun h3 => ?_)
  · have h3 : k = 2 := of_decide_eq_true h3
    rw [if_pos h3]
    conv => whnf
    refine branch_of (fun h4 => ?_) (fun h4 => ?_)
    · rw [h4]
      conv => whnf
      refine call0 (check_good x (by omega)) ?_
      cases checkS x with
      | false =>
        conv => whnf
        exact fin0 rfl trivial
      | true =>
        conv => whnf
        exact fin0 rfl trivial
    · rw [h4]
      conv => whnf
      exact fin0 rfl trivial
  have h3 : ¬ k = 2 := of_decide_eq_false h3
  rw [if_neg h3]
  conv => whnf
  refine seq_of hP [0, 1, 2, 4, 5, 16, 27] [27] [1, 27] [65] [] (fun st => st = ⟨[(1, .ptr 65 0 0), (27, .bool (decide (k = 3 ∨ k = 4 ∨ k = 5)))], [(65, .box 0 (Stp.c ⟨k, v, x⟩))]⟩) ?_ ?_
  · conv => whnf
    refine branch_of (fun g4 => ?_) (fun g4 => ?_)
    · have h4 : k = 3 := of_decide_eq_true g4
      conv => whnf
      have e : decide (k = 3 ∨ k = 4 ∨ k = 5) = true := by rw [decide_eq_true_iff]; omega
      rw [e, g4]
    have h4 : ¬ k = 3 := of_decide_eq_false g4
    conv => whnf
    refine branch_of (fun g5 => ?_) (fun g5 => ?_)
    · have h5 : k = 4 := of_decide_eq_true g5
      conv => whnf
      have e : decide (k = 3 ∨ k = 4 ∨ k = 5) = true := by rw [decide_eq_true_iff]; omega
      rw [e, g5]
    have h5 : ¬ k = 4 := of_decide_eq_false g5
    conv => whnf
    have e : decide (k = 3 ∨ k = 4 ∨ k = 5) = decide (k = 5) := by rw [decide_eq_decide]; omega
    rw [e]
  rintro st rfl
  by_cases h6 : k = 3 ∨ k = 4 ∨ k = 5
  · rw [if_pos h6, decide_eq_true h6]
    conv => whnf
    refine branch_of (fun h4 => ?_) (fun h4 => ?_)
    · rw [h4]
      conv => whnf
      refine ⟨_, (eqVal x zeroV).1, ?_⟩
      conv => whnf
      exact fin0 rfl trivial
    · rw [h4]
      conv => whnf
      exact fin0 rfl trivial
  · rw [if_neg h6, decide_eq_false h6]
    conv => whnf
    exact fin0 rfl trivial
theorem xcheck_good (l : List Stp) (hb : opsB l) : Good Tryz.prog 191 [.sl 5 (stpV l)] [] [.int .i64 (if exprOk l then 0 else 1)] [] := by
  obtain ⟨hl, ho⟩ := hb
  refine good_of hP Tryz.func191 (by kernel_rfl) (lv := [0, 2, 3, 5, 13, 14, 15, 16, 17, 32, 35, 42]) (js := []) ⟨rfl, rfl, rfl, rfl, rfl, rfl, _, rfl, ?_⟩
  conv => whnf
  refine branch_of (fun h => ?_) (fun h => ?_)
  · have h := of_decide_eq_true h
    rw [List.length_map] at h
    conv => whnf
    exact fin0 (by simp [exprOk]; omega) trivial
  have h := of_decide_eq_false h
  rw [List.length_map] at h
  conv => whnf
  refine branch_of (fun h2 => ?_) (fun h2 => ?_)
  · have h2 := of_decide_eq_true h2
    rw [List.length_map] at h2
    conv => whnf
    exact fin0 (by simp [exprOk]; omega) trivial
  have h2 := of_decide_eq_false h2
  rw [List.length_map] at h2
  have e : exprOk l = decide (depGo 0 l = some 1) := by
    have : decide (1 ≤ l.length ∧ l.length ≤ 15) = true := by simp; omega
    rw [exprOk, this, Bool.true_and]
  rw [e]
  conv => whnf
  refine loop_of hP [0, 2, 3, 5, 13, 14, 15, 16, 17, 32, 35, 42] [] [3, 14, 15, 16] [] [] (fun n st => ∃ k d : Nat, n = l.length - k ∧ k ≤ l.length ∧ d ≤ k ∧ depGo 0 l = depGo d (l.drop k) ∧ st = ⟨[(3, .int .i64 d), (14, .sl 5 (stpV l)), (15, .int .i64 l.length), (16, .int .i64 k)], []⟩) l.length ?_ ?_
  · conv => whnf
    exact ⟨0, 0, rfl, Nat.zero_le _, Nat.le_refl _, rfl, by rw [← List.length_map (f := Stp.c)]; rfl⟩
  · rintro n st ⟨k, d, rfl, hk, hd, he, rfl⟩
    conv => whnf
    refine branch_of (fun h3 => ?_) (fun h3 => ?_)
    · have h3 := of_decide_eq_true h3
      have hk' : k < l.length := by omega
      rw [List.drop_eq_getElem_cons hk', depGo] at he
      conv => whnf
      refine ⟨Stp.c l[k], idxM hk' rfl, ?_⟩
      conv => whnf
      refine call0 (xright_good l[k] (ho _ (List.getElem_mem hk'))) ?_
      cases hs : stpOk l[k] with
      | false =>
        rw [hs, if_neg (by simp)] at he
        conv => whnf
        exact fin0 (by rw [he]; rfl) trivial
      | true =>
        have h5 := stpOk_k hs
        rw [hs, if_pos rfl] at he
        conv => whnf
        refine call0 (pushes_good l[k].k) ?_
        by_cases hp : l[k].k = 1 ∨ l[k].k = 2
        · rw [decide_eq_true hp]
          rw [if_pos (by omega)] at he
          conv => whnf
          refine call0 (pushes_good l[k].k) ?_
          rw [decide_eq_true hp]
          conv => whnf
          refine ⟨l.length - (k + 1), by omega, k + 1, d + 1, rfl, by omega, by omega, he, ?_⟩
          rw [wr (by omega) (by omega), wr (by omega) (by omega)]; rfl
        · rw [decide_eq_false hp]
          rw [if_neg (by omega)] at he
          conv => whnf
          refine branch_of (fun h6 => ?_) (fun h6 => ?_)
          · have h6 := of_decide_eq_true h6
            rw [if_pos (by omega)] at he
            conv => whnf
            exact fin0 (by rw [he]; rfl) trivial
          · have h6 := of_decide_eq_false h6
            rw [if_neg (by omega)] at he
            conv => whnf
            refine call0 (pushes_good l[k].k) ?_
            rw [decide_eq_false hp]
            conv => whnf
            refine ⟨l.length - (k + 1), by omega, k + 1, d - 1, rfl, by omega, by omega, he, ?_⟩
            rw [wr (by omega) (by omega), wr (by omega) (by omega)]
            have e1 : (d : Int) - 1 = (d - 1 : Nat) := by omega
            rw [e1]; rfl
    · have h3 := of_decide_eq_false h3
      have hd2 : l.drop k = [] := List.drop_eq_nil_iff.2 (by omega)
      rw [hd2, depGo] at he
      rw [he]
      conv => whnf
      refine branch_of (fun h4 => ?_) (fun h4 => ?_)
      · rw [Bool.not_eq_true'] at h4
        have h4 := of_decide_eq_false h4
        conv => whnf
        exact fin0 (by simp; omega) trivial
      · rw [Bool.not_eq_false'] at h4
        have h4 := of_decide_eq_true h4
        conv => whnf
        exact fin0 (by simp; omega) trivial
theorem how_good (k : Int) (h : k = 3 ∨ k = 4 ∨ k = 5) : Good Tryz.prog 219 [.int .i64 k] [] [.str (opT k)] [] := by
  rcases h with rfl | rfl | rfl
  · refine good_of hP Tryz.func219 (by kernel_rfl) (lv := [0, 2]) (js := []) ⟨rfl, rfl, rfl, rfl, rfl, rfl, _, rfl, ?_⟩
    conv => whnf
    refine ⟨⟨⟩, by decide, ?_⟩
    conv => whnf
    refine ⟨_, rfl, ?_⟩
    conv => whnf
    exact fin0 rfl trivial
  · refine good_of hP Tryz.func219 (by kernel_rfl) (lv := [0, 2]) (js := []) ⟨rfl, rfl, rfl, rfl, rfl, rfl, _, rfl, ?_⟩
    conv => whnf
    refine ⟨⟨⟩, by decide, ?_⟩
    conv => whnf
    refine ⟨_, rfl, ?_⟩
    conv => whnf
    exact fin0 rfl trivial
  · refine good_of hP Tryz.func219 (by kernel_rfl) (lv := [0, 2]) (js := []) ⟨rfl, rfl, rfl, rfl, rfl, rfl, _, rfl, ?_⟩
    conv => whnf
    refine ⟨⟨⟩, by decide, ?_⟩
    conv => whnf
    refine ⟨_, rfl, ?_⟩
    conv => whnf
    exact fin0 rfl trivial
theorem term_good (t : Trm) (h : trmB t) : Good Tryz.prog 148 [.agg t.c] [] [.str (termT t)] [] := by
  obtain ⟨v, x⟩ := t
  refine good_of hP Tryz.func148 (by kernel_rfl) (lv := [0, 1, 2, 3, 7]) (js := []) ⟨rfl, rfl, rfl, rfl, rfl, rfl, _, rfl, ?_⟩
  unfold termT
  dsimp only
  conv => whnf
  refine branch_of (fun h1 => ?_) (fun h1 => ?_)
  · rw [Bool.not_eq_true'] at h1
    have h1 : ¬ v = [] := of_decide_eq_false h1
    rw [if_neg h1]
    conv => whnf
    exact fin0 rfl trivial
  · rw [Bool.not_eq_false'] at h1
    have h1 : v = [] := of_decide_eq_true h1
    rw [if_pos h1]
    conv => whnf
    refine call0 (text_good x h.2) ?_
    conv => whnf
    exact fin0 rfl trivial
end Go.PV
namespace Go.PV
open Go Go.Proofs
set_option maxRecDepth 100000
theorem lower_good (c : UInt8) : Good Tryz.prog 196 [.int .u8 c.toNat] [] [.bool (smallB c)] [] := by
  refine good_of hP Tryz.func196 (by kernel_rfl) (lv := [0, 2]) (js := []) ⟨rfl, rfl, rfl, rfl, rfl, rfl, _, rfl, ?_⟩
  repeat' (conv => whnf); refine branch_of (fun _ => ?_) (fun _ => ?_)
  all_goals (conv => whnf); exact fin0 (by simp_all [smallB, inB] <;> first | omega | (rw [Bool.eq_iff_iff]; simp; omega)) trivial
theorem upper_good (c : UInt8) : Good Tryz.prog 197 [.int .u8 c.toNat] [] [.bool (largeB c)] [] := by
  refine good_of hP Tryz.func197 (by kernel_rfl) (lv := [0, 2]) (js := []) ⟨rfl, rfl, rfl, rfl, rfl, rfl, _, rfl, ?_⟩
  repeat' (conv => whnf); refine branch_of (fun _ => ?_) (fun _ => ?_)
  all_goals (conv => whnf); exact fin0 (by simp_all [largeB, inB] <;> first | omega | (rw [Bool.eq_iff_iff]; simp; omega)) trivial
theorem rdigit_good (c : UInt8) : Good Tryz.prog 199 [.int .u8 c.toNat] [] [.bool (digitB c)] [] := by
  refine good_of hP Tryz.func199 (by kernel_rfl) (lv := [0, 2]) (js := []) ⟨rfl, rfl, rfl, rfl, rfl, rfl, _, rfl, ?_⟩
  repeat' (conv => whnf); refine branch_of (fun _ => ?_) (fun _ => ?_)
  all_goals (conv => whnf); exact fin0 (by simp_all [digitB, inB] <;> first | omega | (rw [Bool.eq_iff_iff]; simp; omega)) trivial
theorem inner_good (c : UInt8) : Good Tryz.prog 208 [.int .u8 c.toNat] [] [.bool (letterB c)] [] := by
  refine good_of hP Tryz.func208 (by kernel_rfl) (lv := [0, 2]) (js := []) ⟨rfl, rfl, rfl, rfl, rfl, rfl, _, rfl, ?_⟩
  conv => whnf
  refine call0 (lower_good _) ?_
  cases h1 : smallB c with
  | true => conv => whnf
            exact fin0 (by simp [letterB, h1]) trivial
  | false =>
  conv => whnf
  refine call0 (upper_good _) ?_
  cases h2 : largeB c with
  | true => conv => whnf
            exact fin0 (by simp [letterB, h2]) trivial
  | false =>
  conv => whnf
  refine call0 (rdigit_good _) ?_
  cases h3 : digitB c with
  | true => conv => whnf
            exact fin0 (by simp [letterB, h3]) trivial
  | false =>
  conv => whnf
  refine fin0 ?_ trivial
  congr 2
  simp [letterB, h1, h2, h3]; omega
theorem in_good (a b c : Int) : Good Tryz.prog 185 [.int .i64 a, .int .i64 b, .int .i64 c] [] [.bool (decide (b ≤ a ∧ a ≤ c))] [] := by
  refine good_of hP Tryz.func185 (by kernel_rfl) (lv := [0, 1, 2, 6]) (js := []) ⟨rfl, rfl, rfl, rfl, rfl, rfl, _, rfl, ?_⟩
  conv => whnf
  refine branch_of (fun h => ?_) (fun h => ?_)
  · have h := of_decide_eq_true h
    conv => whnf
    exact fin0 (by simp [h]) trivial
  · have h := of_decide_eq_false h
    conv => whnf
    exact fin0 (by simp; omega) trivial
theorem word_good (s : Bs) (large : Bool) (hs : s.length ≤ 1000000) : Good Tryz.prog 146 [.str s, .bool large] [] [.bool (refWordS large s)] [] := by
  refine good_of hP Tryz.func146 (by kernel_rfl) (lv := [0, 1, 4, 5, 26, 30, 37]) (js := [26]) ⟨rfl, rfl, rfl, rfl, rfl, rfl, _, rfl, ?_⟩
  conv => whnf
  refine seq_of hP [0, 1, 4, 5, 26, 30, 37] [26] [0, 4] [] [] (fun st => refWordS large s = s.all letterB ∧ st = ⟨[(0, .str s), (4, .bool false)], []⟩) ?_ ?_
  · conv => whnf
    refine call0 (in_good s.length 1 24) ?_
    conv => whnf
    refine branch_of (fun h => ?_) (fun h => ?_)
    · rw [Bool.not_eq_true'] at h
      have h := of_decide_eq_false h
      conv => whnf
      refine fin0 ?_ trivial
      have : (decide (1 ≤ s.length) && decide (s.length ≤ 24)) = false := by simp; omega
      rw [refWordS, this]; simp
    have h : 1 ≤ s.length ∧ s.length ≤ 24 := by
      rw [Bool.not_eq_false'] at h
      have h := of_decide_eq_true h; omega
    have h0 : 0 < s.length := h.1
    obtain ⟨c, r, hcr, hc⟩ := head_at h0
    have hw : refWordS large s = ((if large then largeB c else smallB c) && s.all letterB) := by
      have e1 : decide (1 ≤ s.length) = true := by simp; omega
      have e2 : decide (s.length ≤ 24) = true := by simp; omega
      rw [refWordS, e1, e2]
      have : headB (fun c => if large then largeB c else smallB c) s = if large then largeB c else smallB c := by rw [hcr]; rfl
      rw [this]; simp
    rw [hw]
    conv => whnf
    refine ⟨c, by rw [← hc]; exact idx h0 rfl, ?_⟩
    conv => whnf
    refine call0 (upper_good _) ?_
    cases large with
    | true =>
      cases hl : largeB c with
      | false =>
        conv => whnf
        exact fin0 rfl trivial
      | true =>
        conv => whnf
        exact ⟨rfl, rfl⟩
    | false =>
      cases hl : largeB c with
      | true =>
        conv => whnf
        refine fin0 ?_ trivial
        rw [if_neg (by simp), large_not_small hl]; rfl
      | false =>
        conv => whnf
        refine ⟨c, by rw [← hc]; exact idx h0 rfl, ?_⟩
        conv => whnf
        refine call0 (lower_good _) ?_
        cases hsm : smallB c with
        | false =>
          conv => whnf
          exact fin0 rfl trivial
        | true =>
          conv => whnf
          exact ⟨rfl, rfl⟩
  rintro st ⟨hw, rfl⟩
  rw [hw]
  conv => whnf
  refine loop_of hP [0, 1, 4, 5, 26, 30, 37] [26] [0, 4, 5] [] [] (fun n st => ∃ k : Nat, n = s.length - k ∧ k ≤ s.length ∧ s.all letterB = (s.drop k).all letterB ∧ st = ⟨[(0, .str s), (4, .bool false), (5, .int .i64 k)], []⟩) s.length ?_ ?_
  · conv => whnf
    exact ⟨0, rfl, Nat.zero_le _, rfl, rfl⟩
  · rintro n st ⟨k, rfl, hk, he, rfl⟩
    conv => whnf
    refine branch_of (fun h => ?_) (fun h => ?_)
    · have h := of_decide_eq_true h
      have hk' : k < s.length := by omega
      rw [all_drop hk'] at he
      conv => whnf
      refine ⟨s[k], idx hk' rfl, ?_⟩
      conv => whnf
      refine call0 (inner_good _) ?_
      cases hl : letterB s[k] with
      | false =>
        rw [hl] at he
        conv => whnf
        exact fin0 (by rw [he]; rfl) trivial
      | true =>
        rw [hl, Bool.true_and] at he
        conv => whnf
        refine ⟨s.length - (k + 1), by omega, k + 1, rfl, by omega, he, ?_⟩
        rw [wr (by omega) (by omega)]; rfl
    · have h := of_decide_eq_false h
      have : s.drop k = [] := List.drop_eq_nil_iff.2 (by omega)
      rw [this] at he
      conv => whnf
      exact fin0 (by rw [he]; rfl) trivial
theorem refNumber_good (s : Bs) (hs : s.length ≤ 1000000) : Good Tryz.prog 181 [.str s] [] [.int .i64 ((refNumS s).getD 0), .bool (refNumS s).isSome] [] := by
  refine good_of hP Tryz.func181 (by kernel_rfl) (lv := [0, 2, 3, 4, 5, 6, 7, 8, 17, 22, 26, 33, 48, 53, 54]) (js := [200001, 17]) ⟨rfl, rfl, rfl, rfl, rfl, rfl, _, rfl, ?_⟩
  conv => whnf
  refine seq_of hP [0, 2, 3, 4, 5, 6, 7, 8, 17, 22, 26, 33, 48, 53, 54] [200001, 17] [0, 2, 3, 4] [] [] (fun st => st = ⟨[(0, .str s), (2, .int .i64 0), (3, .bool false), (4, .bool (signed s))], []⟩) ?_ ?_
  · conv => whnf
    refine branch_of (fun h => ?_) (fun h => ?_)
    · have h := of_decide_eq_true h
      obtain ⟨c, r, rfl, _⟩ := head_at (s := s) (by omega)
      conv => whnf
      refine ⟨c, ⟨by omega, rfl⟩, ?_⟩
      conv => whnf
      have : signed (c :: r) = decide ((c.toNat : Int) = 45) := by show decide _ = decide _; rw [decide_eq_decide]; omega
      rw [this]
    · have h := of_decide_eq_false h
      have hs0 : s = [] := List.eq_nil_of_length_eq_zero (by omega)
      subst hs0
      conv => whnf
      rfl
  rintro st rfl
  conv => whnf
  refine seq_of hP [0, 2, 3, 4, 5, 6, 7, 8, 17, 22, 26, 33, 48, 53, 54] [200001, 17] [0, 2, 3, 4] [] [] (fun st => st = ⟨[(0, .str (unS s)), (2, .int .i64 0), (3, .bool false), (4, .bool (signed s))], []⟩) ?_ ?_
  · conv => whnf
    cases hsg : signed s with
    | true =>
      have hl : 0 < s.length := by
        cases s with
        | nil => simp [signed, headB] at hsg
        | cons c r => simp
      conv => whnf
      refine ⟨⟨⟩, by dsimp only; omega, ?_⟩
      conv => whnf
      rw [unS, hsg]; rfl
    | false =>
      conv => whnf
      rw [unS, hsg]; rfl
  rintro st rfl
  have hul : (unS s).length ≤ s.length := by unfold unS; split <;> simp
  conv => whnf
  refine branch_of (fun h => ?_) (fun h => ?_)
  · have h := of_decide_eq_true h
    have h0 : unS s = [] := List.eq_nil_of_length_eq_zero (by omega)
    conv => whnf
    exact fin0 (by simp [refNumS, h0]) trivial
  have h := of_decide_eq_false h
  have hne : unS s ≠ [] := fun e => h (by rw [e]; rfl)
  conv => whnf
  generalize hu : unS s = u at *
  refine loop_of hP [0, 2, 3, 4, 5, 6, 7, 8, 17, 22, 26, 33, 48, 53, 54] [200001, 17] [0, 2, 3, 4, 5, 6, 7] [] [] (fun m st => ∃ (k : Nat) (n : Nat) (over : Bool), m = u.length - k ∧ k ≤ u.length ∧ n ≤ 4611686018427387904 ∧ u.all digitB = (u.drop k).all digitB ∧ (over = true → 4611686018427387904 < digN (u.take k)) ∧ (over = false → n = digN (u.take k)) ∧
    st = ⟨[(0, .str u), (2, .int .i64 0), (3, .bool false), (4, .bool (signed s)), (5, .int .i64 n), (6, .bool over), (7, .int .i64 k)], []⟩) u.length ?_ ?_
  · conv => whnf
    exact ⟨0, 0, false, rfl, Nat.zero_le _, by omega, rfl, by simp, fun _ => rfl, rfl⟩
  · rintro m st ⟨k, n, over, rfl, hk, hn, he, ho1, ho2, rfl⟩
    conv => whnf
    refine branch_of (fun h => ?_) (fun h => ?_)
    · have h := of_decide_eq_true h
      have hk' : k < u.length := by omega
      rw [all_drop hk'] at he
      conv => whnf
      refine ⟨u[k], idx hk' rfl, ?_⟩
      conv => whnf
      refine call0 (rdigit_good _) ?_
      have hdig := digN_snoc u hk'
      cases hd : digitB u[k] with
      | false =>
        conv => whnf
        rw [hd] at he
        exact fin0 (by simp [refNumS, hu, he]) trivial
      | true =>
        rw [hd, Bool.true_and] at he
        have hd := hd
        simp only [digitB, inB_iff] at hd
        conv => whnf
        refine ⟨u[k], idx hk' rfl, ?_⟩
        have hw1 : IntKind.i64.wrap (IntKind.u8.wrap ((u[k].toNat : Int) - 48)) = (u[k].toNat - 48 : Nat) := by
          have : IntKind.u8.wrap ((u[k].toNat : Int) - 48) = (u[k].toNat - 48 : Nat) := by simp [IntKind.wrap, IntKind.bits, IntKind.signed]; omega
          rw [this, wr (by omega) (by omega)]
        generalize hD : u[k].toNat - 48 = d at *
        have hw2 : IntKind.i64.wrap ((k : Int) + 1) = (k + 1 : Nat) := by rw [wr (by omega) (by omega)]; rfl
        cases over with
        | true =>
          conv => whnf
          refine ⟨u.length - (k + 1), by omega, k + 1, n, true, rfl, by omega, hn, he, fun _ => ?_, by simp, ?_⟩
          · have := ho1 rfl; omega
          · rw [hw2]
        | false =>
          conv => whnf
          have hn1 := ho2 rfl
          have hw3 : IntKind.i64.wrap ((IntKind.i64.wrap (4611686018427387904 - (d : Int))).tdiv 10) = (4611686018427387904 - d) / 10 := by
            have hd9 : d ≤ 9 := by omega
            rw [wr (n := 4611686018427387904 - (d : Int)) (by omega) (by omega), Int.tdiv_eq_ediv_of_nonneg (by omega), wr (by omega) (by omega)]
          rw [hw1]
          refine ⟨⟨⟩, by decide, ?_⟩
          rw [hw3]
          conv => whnf
          cases hov : decide ((4611686018427387904 - (d : Int)) / 10 < n) with
          | true =>
            have hov := of_decide_eq_true hov
            conv => whnf
            refine ⟨u.length - (k + 1), by omega, k + 1, n, true, rfl, by omega, hn, he, fun _ => ?_, by simp, ?_⟩
            · omega
            · rw [hw2]
          | false =>
            have hov := of_decide_eq_false hov
            conv => whnf
            refine ⟨u.length - (k + 1), by omega, k + 1, 10 * n + d, false, rfl, by omega, by omega, he, by simp, fun _ => by omega, ?_⟩
            rw [hw2, wr (n := 10 * (n : Int)) (by omega) (by omega), wr (by omega) (by omega)]; rfl
    · have h := of_decide_eq_false h
      have hku : k = u.length := by omega
      subst hku
      have hal : u.all digitB = true := by rw [he]; simp
      rw [List.take_length] at ho1 ho2
      conv => whnf
      cases over with
      | true =>
        have := ho1 rfl
        conv => whnf
        exact fin0 (by simp [refNumS, hu, this]) trivial
      | false =>
        have hn2 := ho2 rfl
        conv => whnf
        cases hsg : signed s with
        | true =>
          conv => whnf
          refine fin0 ?_ trivial
          rw [wr (by omega) (by omega)]
          have hle : ¬ 4611686018427387904 < n := by omega
          simp [refNumS, hu, hne, hal, hsg, ← hn2, hle]
        | false =>
          conv => whnf
          refine fin0 ?_ trivial
          have hle : ¬ 4611686018427387904 < n := by omega
          simp [refNumS, hu, hne, hal, hsg, ← hn2, hle]
theorem refQuoted_good (s : Bs) (hs : s.length ≤ 1000000) : Good Tryz.prog 201 [.str s] [] [.str (refQuotedS s).1, .bool (refQuotedS s).2] [] := by
  refine good_of hP Tryz.func201 (by kernel_rfl) (lv := [0, 2, 3, 4, 5, 13, 17, 20, 36, 58, 59]) (js := [13]) ⟨rfl, rfl, rfl, rfl, rfl, rfl, _, rfl, ?_⟩
  conv => whnf
  refine seq_of hP [0, 2, 3, 4, 5, 13, 17, 20, 36, 58, 59] [13] [0, 2, 3] [] [] (fun st => refQuotedS s = refQGo [] (s.drop 1) ∧ st = ⟨[(0, .str s), (2, .str []), (3, .bool false)], []⟩) ?_ ?_
  · conv => whnf
    refine branch_of (fun h => ?_) (fun h => ?_)
    · have h := of_decide_eq_true h
      conv => whnf
      refine fin0 ?_ trivial
      match s, h with
      | [], _ => rfl
      | [c], _ => rfl
      | c :: d :: r, h => simp at h; omega
    · have h := of_decide_eq_false h
      match s, h with
      | [], h => simp at h
      | [c], h => simp at h
      | c :: d :: r, h =>
        conv => whnf
        refine ⟨c, ⟨by omega, rfl⟩, ?_⟩
        conv => whnf
        refine branch_of (fun h1 => ?_) (fun h1 => ?_)
        · rw [Bool.not_eq_true'] at h1
          have h1 := of_decide_eq_false h1
          conv => whnf
          refine fin0 ?_ trivial
          rw [refQuotedS, if_neg (by omega)]
        · rw [Bool.not_eq_false'] at h1
          have h1 := of_decide_eq_true h1
          conv => whnf
          exact ⟨by rw [refQuotedS, if_pos (by omega)]; rfl, rfl⟩
  rintro st ⟨hq, rfl⟩
  conv => whnf
  refine loop_of hP [0, 2, 3, 4, 5, 13, 17, 20, 36, 58, 59] [13] [0, 2, 3, 4, 5] [] [] (fun n st => ∃ (k : Nat) (out : Bs), n = s.length + 1 - k ∧ 1 ≤ k ∧ (k ≤ s.length ∨ k = 1) ∧ out.length ≤ k ∧ refQuotedS s = refQGo out (s.drop k) ∧ st = ⟨[(0, .str s), (2, .str []), (3, .bool false), (4, .str out), (5, .int .i64 k)], []⟩) s.length ?_ ?_
  · conv => whnf
    exact ⟨1, [], by omega, by omega, .inr rfl, Nat.zero_le _, hq, rfl⟩
  · rintro n st ⟨k, out, rfl, hk0, hk, hout, he, rfl⟩
    conv => whnf
    refine branch_of (fun h => ?_) (fun h => ?_)
    · have h := of_decide_eq_true h
      have hk' : k < s.length := by omega
      have hw1 : IntKind.i64.wrap ((k : Int) + 1) = (k + 1 : Nat) := by rw [wr (by omega) (by omega)]; rfl
      rw [drop_cons hk'] at he
      conv => whnf
      refine ⟨s[k], idx hk' rfl, ?_⟩
      conv => whnf
      refine branch_of (fun h1 => ?_) (fun h1 => ?_)
      · have h1 := of_decide_eq_true h1
        rw [refQ_quote (by omega)] at he
        have hr : decide (s.drop (k + 1) = []) = decide ((k : Int) = s.length - 1) := by
          rw [decide_eq_decide, List.drop_eq_nil_iff]; omega
        rw [hr] at he
        conv => whnf
        rw [wr (by omega) (by omega)]
        refine branch_of (fun h2 => ?_) (fun h2 => ?_)
        · conv => whnf
          refine fin0 ?_ trivial
          rw [he, h2]; simp; omega
        · conv => whnf
          refine fin0 ?_ trivial
          rw [he, h2]; simp
      · have h1 := of_decide_eq_false h1
        conv => whnf
        refine ⟨s[k], idx hk' rfl, ?_⟩
        conv => whnf
        refine branch_of (fun h2 => ?_) (fun h2 => ?_)
        · have h2 := of_decide_eq_true h2
          conv => whnf
          rw [hw1]
          refine branch_of (fun h3 => ?_) (fun h3 => ?_)
          · have h3 := of_decide_eq_true h3
            have : s.drop (k + 1) = [] := List.drop_eq_nil_iff.2 (by omega)
            rw [this, refQ_bad (by omega) (.inl ⟨by omega, rfl⟩)] at he
            conv => whnf
            exact fin0 (by rw [he]) trivial
          · have h3 := of_decide_eq_false h3
            have hk2 : k + 1 < s.length := by omega
            have hw2 : IntKind.i64.wrap (((k + 1 : Nat) : Int) + 1) = (k + 2 : Nat) := by rw [wr (by omega) (by omega)]; rfl
            rw [drop_cons hk2] at he
            conv => whnf
            refine ⟨s[k + 1], idx hk2 rfl, ?_⟩
            have esc : escB s[k + 1] = true → ∃ m, m < s.length + 1 - k ∧ ∃ (k' : Nat) (out' : Bs), m = s.length + 1 - k' ∧ 1 ≤ k' ∧ (k' ≤ s.length ∨ k' = 1) ∧ out'.length ≤ k' ∧ refQuotedS s = refQGo out' (s.drop k') ∧ (⟨[(0, .str s), (2, .str []), (3, .bool false), (4, .str (out ++ (s.take (k + 2)).drop (k + 1))), (5, .int .i64 ((k + 2 : Nat) : Int))], []⟩ : St) = ⟨[(0, .str s), (2, .str []), (3, .bool false), (4, .str out'), (5, .int .i64 k')], []⟩ := fun hd => by
              refine ⟨s.length + 1 - (k + 2), by omega, k + 2, out ++ [s[k + 1]], rfl, by omega, by omega, by simp; omega, by rw [he, refQ_esc (by omega) hd], ?_⟩
              rw [sub1 hk2]
            conv => whnf
            refine branch_of (fun h4 => ?_) (fun h4 => ?_)
            · rw [Bool.not_eq_true'] at h4
              have h4 := of_decide_eq_false h4
              conv => whnf
              refine ⟨s[k + 1], idx hk2 rfl, ?_⟩
              conv => whnf
              refine branch_of (fun h5 => ?_) (fun h5 => ?_)
              · rw [Bool.not_eq_true'] at h5
                have h5 := of_decide_eq_false h5
                rw [refQ_bad (by omega) (.inl ⟨by omega, by simp [headB, escB]; omega⟩)] at he
                conv => whnf
                exact fin0 (by rw [he]) trivial
              · rw [Bool.not_eq_false'] at h5
                have h5 := of_decide_eq_true h5
                conv => whnf
                rw [hw2]
                refine ⟨⟨⟩, by dsimp only; omega, ?_⟩
                conv => whnf
                refine ⟨⟨⟩, by dsimp only; simp; omega, ?_⟩
                conv => whnf
                rw [hw2]
                exact esc (by simp [escB]; omega)
            · rw [Bool.not_eq_false'] at h4
              have h4 := of_decide_eq_true h4
              conv => whnf
              rw [hw2]
              refine ⟨⟨⟩, by dsimp only; omega, ?_⟩
              conv => whnf
              refine ⟨⟨⟩, by dsimp only; simp; omega, ?_⟩
              conv => whnf
              rw [hw2]
              exact esc (by simp [escB]; omega)
        · have h2 := of_decide_eq_false h2
          conv => whnf
          refine ⟨s[k], idx hk' rfl, ?_⟩
          conv => whnf
          have hwb : IntKind.i64.wrap (s[k].toNat : Int) = s[k].toNat := by have := UInt8.toNat_lt s[k]; rw [wr (by omega) (by omega)]
          rw [hwb]
          refine call0 (in_good _ 32 126) ?_
          conv => whnf
          refine branch_of (fun h3 => ?_) (fun h3 => ?_)
          · rw [Bool.not_eq_true'] at h3
            have h3 := of_decide_eq_false h3
            rw [refQ_bad (by omega) (.inr ⟨by omega, by simp only [plainB, inB_no]; omega⟩)] at he
            conv => whnf
            exact fin0 (by rw [he]) trivial
          · rw [Bool.not_eq_false'] at h3
            have h3 := of_decide_eq_true h3
            rw [refQ_step (by omega) (by omega) (by simp only [plainB, inB_iff]; omega)] at he
            conv => whnf
            rw [hw1]
            refine ⟨⟨⟩, by dsimp only; omega, ?_⟩
            conv => whnf
            refine ⟨⟨⟩, by dsimp only; simp; omega, ?_⟩
            conv => whnf
            rw [hw1]
            refine ⟨s.length + 1 - (k + 1), by omega, k + 1, out ++ [s[k]], rfl, by omega, by omega, by simp; omega, he, ?_⟩
            show (⟨[(0, .str s), (2, .str []), (3, .bool false), (4, .str (out ++ (s.take (k + 1)).drop k)), (5, .int .i64 ((k + 1 : Nat) : Int))], []⟩ : St) = _
            rw [sub1 hk']
    · have h := of_decide_eq_false h
      have : s.drop k = [] := List.drop_eq_nil_iff.2 (by omega)
      rw [this] at he
      conv => whnf
      exact fin0 (by rw [he]; rfl) trivial
end Go.PV
namespace Go.PV
open Go Go.Proofs
set_option maxRecDepth 100000
theorem inner9_good (c : UInt8) : Good Tryz.prog 198 [.int .u8 c.toNat] [] [.bool (letterB c)] [] := by
  refine good_of hP Tryz.func198 (by kernel_rfl) (lv := [0, 2]) (js := []) ⟨rfl, rfl, rfl, rfl, rfl, rfl, _, rfl, ?_⟩
  conv => whnf
  refine call0 (lower_good _) ?_
  cases h1 : smallB c with
  | true => conv => whnf
            exact fin0 (by simp [letterB, h1]) trivial
  | false =>
  conv => whnf
  refine call0 (upper_good _) ?_
  cases h2 : largeB c with
  | true => conv => whnf
            exact fin0 (by simp [letterB, h2]) trivial
  | false =>
  conv => whnf
  refine call0 (rdigit_good _) ?_
  cases h3 : digitB c with
  | true => conv => whnf
            exact fin0 (by simp [letterB, h3]) trivial
  | false =>
  conv => whnf
  refine fin0 ?_ trivial
  congr 2
  simp [letterB, h1, h2, h3]; omega
theorem single_good (c : UInt8) : Good Tryz.prog 200 [.int .u8 c.toNat] [] [.bool (decide (c ∈ signs1))] [] := by
  refine good_of hP Tryz.func200 (by kernel_rfl) (lv := [0, 2, 3, 4, 8, 15]) (js := []) ⟨rfl, rfl, rfl, rfl, rfl, rfl, _, rfl, ?_⟩
  conv => whnf
  refine loop_of hP [0, 2, 3, 4, 8, 15] [] [0, 2, 3, 4] [] [] (fun n st => ∃ k : Nat, n = 13 - k ∧ k ≤ 13 ∧ (c ∈ signs1 ↔ c ∈ signs1.drop k) ∧ st = ⟨[(0, .int .u8 c.toNat), (2, .bool false), (3, .str signs1), (4, .int .i64 k)], []⟩) 13 ?_ ?_
  · conv => whnf
    exact ⟨0, rfl, by omega, by rw [List.drop_zero], rfl⟩
  · rintro n st ⟨k, rfl, hk, he, rfl⟩
    have hlen : signs1.length = 13 := rfl
    conv => whnf
    refine branch_of (fun h => ?_) (fun h => ?_)
    · have h := of_decide_eq_true h
      rw [hlen] at h
      have hk' : k < signs1.length := by rw [hlen]; omega
      rw [drop_cons hk', List.mem_cons] at he
      conv => whnf
      refine ⟨signs1[k], idx hk' rfl, ?_⟩
      conv => whnf
      refine branch_of (fun h1 => ?_) (fun h1 => ?_)
      · have h1 := of_decide_eq_true h1
        have : c = signs1[k] := UInt8.toNat_inj.1 (by omega)
        conv => whnf
        exact fin0 (by rw [decide_eq_true (he.2 (.inl this))]) trivial
      · have h1 := of_decide_eq_false h1
        have : ¬ c = signs1[k] := fun e => h1 (by rw [← e])
        conv => whnf
        refine ⟨13 - (k + 1), by omega, k + 1, rfl, by omega, by rw [he]; simp [this], ?_⟩
        rw [wr (by omega) (by omega)]; rfl
    · have h := of_decide_eq_false h
      rw [hlen] at h
      have hk3 : k = 13 := by omega
      subst hk3
      have hno : ¬ c ∈ signs1 := fun hm => by have := he.1 hm; simp [signs1] at this
      conv => whnf
      exact fin0 (by rw [decide_eq_false hno]) trivial
theorem right_good (k : Int) (t : Bs) (hs : t.length ≤ 1000000) : Good Tryz.prog 132 [.int .i64 k, .str t] [] [.bool (refRight k t)] [] := by
  refine good_of hP Tryz.func132 (by kernel_rfl) (lv := [0, 1, 4, 6, 8, 9, 10, 14, 18, 26]) (js := []) ⟨rfl, rfl, rfl, rfl, rfl, rfl, _, rfl, ?_⟩
  conv => whnf
  refine branch_of (fun h1 => ?_) (fun h1 => ?_)
  · have h1 := of_decide_eq_true h1
    conv => whnf
    refine call0 (word_good t false hs) ?_
    conv => whnf
    exact fin0 (by rw [refRight, if_pos h1]) trivial
  have h1 := of_decide_eq_false h1
  conv => whnf
  refine branch_of (fun h2 => ?_) (fun h2 => ?_)
  · have h2 := of_decide_eq_true h2
    conv => whnf
    refine call0 (word_good t true hs) ?_
    conv => whnf
    exact fin0 (by rw [refRight, if_neg h1, if_pos h2]) trivial
  have h2 := of_decide_eq_false h2
  conv => whnf
  refine branch_of (fun h3 => ?_) (fun h3 => ?_)
  · have h3 := of_decide_eq_true h3
    conv => whnf
    refine call0 (refNumber_good t hs) ?_
    conv => whnf
    exact fin0 (by rw [refRight, if_neg h1, if_neg h2, if_pos h3]) trivial
  have h3 := of_decide_eq_false h3
  conv => whnf
  refine branch_of (fun h4 => ?_) (fun h4 => ?_)
  · have h4 := of_decide_eq_true h4
    conv => whnf
    refine call0 (refQuoted_good t hs) ?_
    conv => whnf
    exact fin0 (by rw [refRight, if_neg h1, if_neg h2, if_neg h3, if_pos h4]) trivial
  have h4 := of_decide_eq_false h4
  have e : refRight k t = ((decide (t.length = 1) && headB (fun c => decide (c ∈ signs1)) t) || twoB t) := by rw [refRight, if_neg h1, if_neg h2, if_neg h3, if_neg h4]
  rw [e]
  conv => whnf
  refine branch_of (fun h => ?_) (fun h => ?_)
  · have h := of_decide_eq_true h
    obtain ⟨c, r, rfl, _⟩ := head_at (s := t) (by omega)
    have hr : r = [] := by simp at h; exact List.eq_nil_of_length_eq_zero (by omega)
    subst hr
    conv => whnf
    refine ⟨c, ⟨by omega, rfl⟩, ?_⟩
    conv => whnf
    refine call0 (single_good c) ?_
    have ex : (decide (([c] : Bs).length = 1) && headB (fun c => decide (c ∈ signs1)) [c]) = decide (c ∈ signs1) := rfl
    have tw : twoB [c] = false := by simp [twoB]
    rw [ex, tw, Bool.or_false]
    cases hm : decide (c ∈ signs1) with
    | true =>
      conv => whnf
      exact fin0 rfl trivial
    | false =>
      conv => whnf
      refine branch_of (fun h => absurd (of_decide_eq_true h) (by simp)) (fun _ => ?_)
      conv => whnf
      refine branch_of (fun h => absurd (of_decide_eq_true h) (by simp)) (fun _ => ?_)
      conv => whnf
      refine branch_of (fun h => absurd (of_decide_eq_true h) (by simp)) (fun _ => ?_)
      conv => whnf
      exact fin0 (by simp) trivial
  · have h := of_decide_eq_false h
    have ex : (decide (t.length = 1) && headB (fun c => decide (c ∈ signs1)) t) = false := by rw [decide_eq_false (by omega)]; rfl
    conv => whnf
    refine branch_of (fun h => ?_) (fun t0 => ?_)
    · have h : t = [33, 61] := of_decide_eq_true h
      conv => whnf
      exact fin0 (by subst h; rfl) trivial
    have t0 : t ≠ [33, 61] := of_decide_eq_false t0
    conv => whnf
    refine branch_of (fun h => ?_) (fun t1 => ?_)
    · have h : t = [60, 61] := of_decide_eq_true h
      conv => whnf
      exact fin0 (by subst h; rfl) trivial
    have t1 : t ≠ [60, 61] := of_decide_eq_false t1
    conv => whnf
    refine branch_of (fun h => ?_) (fun t2 => ?_)
    · have h : t = [45, 62] := of_decide_eq_true h
      conv => whnf
      exact fin0 (by subst h; rfl) trivial
    have t2 : t ≠ [45, 62] := of_decide_eq_false t2
    conv => whnf
    refine fin0 ?_ trivial
    have ht : twoB t = decide (t = [61, 62]) := by simp [twoB, t0, t1, t2]
    rw [ex, Bool.false_or, ht]
theorem rsign_good (s : Bs) (hs : s.length ≤ 100000) (h0 : s ≠ []) : Good Tryz.prog 131 [.str s] [] [.int .i64 (refSign s).1, .int .i64 (refSign s).2] [] := by
  refine good_of hP Tryz.func131 (by kernel_rfl) (lv := [0, 2, 3, 4, 5, 6, 9, 25, 29, 32, 58, 62, 74, 78, 86, 91, 107, 109]) (js := [200003, 200009, 100001, 100003, 100005, 91]) ⟨rfl, rfl, rfl, rfl, rfl, rfl, _, rfl, ?_⟩
  have hl : 0 < s.length := List.length_pos_iff.2 h0
  obtain ⟨c, r, hcr, hc⟩ := head_at hl
  have hrl : s.length = r.length + 1 := by rw [hcr]; rfl
  have hdr : ∀ k, s.drop (k + 1) = r.drop k := fun k => by rw [hcr]; rfl
  conv => whnf
  refine ⟨c, by rw [← hc]; exact idx hl rfl, ?_⟩
  conv => whnf
  refine seq_of hP [0, 2, 3, 4, 5, 6, 9, 25, 29, 32, 58, 62, 74, 78, 86, 91, 107, 109] [200003, 200009, 100001, 100003, 100005, 91] [0, 2, 3, 4, 5, 9] [] [] (fun st => st = ⟨[(0, .str s), (2, .int .i64 0), (3, .int .i64 0), (4, .int .u8 c.toNat), (5, .int .i64 1), (9, .bool (decide (smallB c ∨ largeB c)))], []⟩) ?_ ?_
  · conv => whnf
    refine call0 (lower_good _) ?_
    cases h1 : smallB c with
    | true => conv => whnf
              rfl
    | false =>
      conv => whnf
      refine call0 (upper_good _) ?_
      conv => whnf
      simp only [Bool.false_eq_true, false_or, Bool.decide_eq_true]
  rintro st rfl
  conv => whnf
  refine branch_of (fun h => ?_) (fun h => ?_)
  · have h := of_decide_eq_true h
    have e : refSign s = (if smallB c then 1 else 2, 1 + (r.takeWhile letterB).length) := by rw [hcr, refSign, if_pos h]
    have htl := (List.takeWhile_prefix (p := letterB) (l := r)).length_le
    conv => whnf
    refine seq_of hP [0, 2, 3, 4, 5, 6, 9, 25, 29, 32, 58, 62, 74, 78, 86, 91, 107, 109] [200003, 200009, 100001, 100003, 100005, 91] [0, 2, 3, 4, 5] [] [] (fun st => st = ⟨[(0, .str s), (2, .int .i64 0), (3, .int .i64 0), (4, .int .u8 c.toNat), (5, .int .i64 (1 + (r.takeWhile letterB).length : Nat))], []⟩) ?_ ?_
    · conv => whnf
      refine loop_of hP [0, 2, 3, 4, 5, 6, 9, 25, 29, 32, 58, 62, 74, 78, 86, 91, 107, 109] [200003, 200009, 100001, 100003, 100005, 91] [0, 2, 3, 4, 5] [] [] (fun m st => ∃ k : Nat, m = s.length - k ∧ 1 ≤ k ∧ k ≤ s.length ∧ 1 + (r.takeWhile letterB).length = k + ((s.drop k).takeWhile letterB).length ∧ st = ⟨[(0, .str s), (2, .int .i64 0), (3, .int .i64 0), (4, .int .u8 c.toNat), (5, .int .i64 k)], []⟩) (s.length - 1) ?_ ?_
      · conv => whnf
        exact ⟨1, rfl, by omega, by omega, by rw [hdr 0, List.drop_zero], rfl⟩
      · rintro m st ⟨k, rfl, hk1, hk, he, rfl⟩
        conv => whnf
        refine branch_of (fun h2 => ?_) (fun h2 => ?_)
        · have h2 := of_decide_eq_true h2
          have hk' : k < s.length := by omega
          rw [takeWhile_drop hk'] at he
          conv => whnf
          refine ⟨s[k], idx hk' rfl, ?_⟩
          conv => whnf
          refine call0 (inner9_good _) ?_
          cases hp : letterB s[k] with
          | true =>
            rw [hp, if_pos rfl, List.length_cons] at he
            conv => whnf
            refine ⟨s.length - (k + 1), by omega, k + 1, rfl, by omega, by omega, by omega, ?_⟩
            rw [wr (by omega) (by omega)]; rfl
          | false =>
            rw [hp, if_neg (by simp)] at he
            conv => whnf
            rw [he]; rfl
        · have h2 := of_decide_eq_false h2
          have hd : s.drop k = [] := List.drop_eq_nil_iff.2 (by omega)
          rw [hd] at he
          conv => whnf
          rw [he]; rfl
    rintro st rfl
    conv => whnf
    refine call0 (lower_good _) ?_
    cases hsm : smallB c with
    | true =>
      rw [hsm] at e
      conv => whnf
      exact fin0 (by rw [e]; rfl) trivial
    | false =>
      rw [hsm] at e
      conv => whnf
      exact fin0 (by rw [e]; rfl) trivial
  · have hn := of_decide_eq_false h
    conv => whnf
    refine seq_of hP [0, 2, 3, 4, 5, 6, 9, 25, 29, 32, 58, 62, 74, 78, 86, 91, 107, 109] [200003, 200009, 100001, 100003, 100005, 91] [0, 2, 3, 4, 5, 32] [] [] (fun st => st = ⟨[(0, .str s), (2, .int .i64 0), (3, .int .i64 0), (4, .int .u8 c.toNat), (5, .int .i64 1), (32, .bool (decide (digitB c ∨ (c.toNat = 45 ∧ headB digitB r))))], []⟩) ?_ ?_
    · conv => whnf
      refine call0 (rdigit_good _) ?_
      cases h1 : digitB c with
      | true => conv => whnf
                rfl
      | false =>
        conv => whnf
        refine branch_of (fun h2 => ?_) (fun h2 => ?_)
        · have h2 : c.toNat = 45 := by have := of_decide_eq_true h2; omega
          conv => whnf
          refine branch_of (fun h3 => ?_) (fun h3 => ?_)
          · have h3 := of_decide_eq_true h3
            have h31 : 1 < s.length := by omega
            have hd : headB digitB r = digitB s[1] := by
              have : r = s[1] :: s.drop 2 := by
                have e := drop_cons h31
                conv at e => lhs; rw [hcr]
                simpa using e
              rw [this]; rfl
            conv => whnf
            refine ⟨s[1], idx h31 rfl, ?_⟩
            conv => whnf
            refine call0 (rdigit_good _) ?_
            conv => whnf
            simp only [h2, hd, Bool.false_eq_true, false_or, true_and, Bool.decide_eq_true]
          · have h3 := of_decide_eq_false h3
            have hr : r = [] := by
              rw [hcr] at h3; simp at h3
              exact List.eq_nil_of_length_eq_zero (by omega)
            subst hr
            conv => whnf
            simp only [h2, headB, Bool.false_eq_true, and_false, or_false, decide_false]
        · have h2 : c.toNat ≠ 45 := by have := of_decide_eq_false h2; omega
          conv => whnf
          simp only [h2, false_and, Bool.false_eq_true, or_false, decide_false]
    rintro st rfl
    conv => whnf
    refine branch_of (fun h => ?_) (fun h => ?_)
    · have h := of_decide_eq_true h
      have e : refSign s = (3, 1 + (r.takeWhile digitB).length) := by rw [hcr, refSign, if_neg hn, if_pos h]
      have htl := (List.takeWhile_prefix (p := digitB) (l := r)).length_le
      conv => whnf
      refine seq_of hP [0, 2, 3, 4, 5, 6, 9, 25, 29, 32, 58, 62, 74, 78, 86, 91, 107, 109] [200003, 200009, 100001, 100003, 100005, 91] [0, 2, 3, 4, 5] [] [] (fun st => st = ⟨[(0, .str s), (2, .int .i64 0), (3, .int .i64 0), (4, .int .u8 c.toNat), (5, .int .i64 (1 + (r.takeWhile digitB).length : Nat))], []⟩) ?_ ?_
      · conv => whnf
        refine loop_of hP [0, 2, 3, 4, 5, 6, 9, 25, 29, 32, 58, 62, 74, 78, 86, 91, 107, 109] [200003, 200009, 100001, 100003, 100005, 91] [0, 2, 3, 4, 5] [] [] (fun m st => ∃ k : Nat, m = s.length - k ∧ 1 ≤ k ∧ k ≤ s.length ∧ 1 + (r.takeWhile digitB).length = k + ((s.drop k).takeWhile digitB).length ∧ st = ⟨[(0, .str s), (2, .int .i64 0), (3, .int .i64 0), (4, .int .u8 c.toNat), (5, .int .i64 k)], []⟩) (s.length - 1) ?_ ?_
        · conv => whnf
          exact ⟨1, rfl, by omega, by omega, by rw [hdr 0, List.drop_zero], rfl⟩
        · rintro m st ⟨k, rfl, hk1, hk, he, rfl⟩
          conv => whnf
          refine branch_of (fun h2 => ?_) (fun h2 => ?_)
          · have h2 := of_decide_eq_true h2
            have hk' : k < s.length := by omega
            rw [takeWhile_drop hk'] at he
            conv => whnf
            refine ⟨s[k], idx hk' rfl, ?_⟩
            conv => whnf
            refine call0 (rdigit_good _) ?_
            cases hp : digitB s[k] with
            | true =>
              rw [hp, if_pos rfl, List.length_cons] at he
              conv => whnf
              refine ⟨s.length - (k + 1), by omega, k + 1, rfl, by omega, by omega, by omega, ?_⟩
              rw [wr (by omega) (by omega)]; rfl
            | false =>
              rw [hp, if_neg (by simp)] at he
              conv => whnf
              rw [he]; rfl
          · have h2 := of_decide_eq_false h2
            have hd : s.drop k = [] := List.drop_eq_nil_iff.2 (by omega)
            rw [hd] at he
            conv => whnf
            rw [he]; rfl
      rintro st rfl
      conv => whnf
      exact fin0 (by rw [e]) trivial
    · have hn2 := of_decide_eq_false h
      conv => whnf
      refine branch_of (fun h => ?_) (fun h => ?_)
      · have h : c.toNat = 34 := by have := of_decide_eq_true h; omega
        have e : refSign s = if refText 1 r = 0 then (0, 0) else (4, refText 1 r) := by rw [hcr, refSign, if_neg hn, if_neg hn2, if_pos h]
        conv => whnf
        refine seq_of hP [0, 2, 3, 4, 5, 6, 9, 25, 29, 32, 58, 62, 74, 78, 86, 91, 107, 109] [200003, 200009, 100001, 100003, 100005, 91] [0, 2, 3, 5] [] [] (fun st => ∃ q : Nat, q ≤ s.length + 1 ∧ ((q < s.length ∧ refText 1 r = q + 1) ∨ (s.length ≤ q ∧ refText 1 r = 0)) ∧ st = ⟨[(0, .str s), (2, .int .i64 0), (3, .int .i64 0), (5, .int .i64 q)], []⟩) ?_ ?_
        · conv => whnf
          refine loop_of hP [0, 2, 3, 4, 5, 6, 9, 25, 29, 32, 58, 62, 74, 78, 86, 91, 107, 109] [200003, 200009, 100001, 100003, 100005, 91] [0, 2, 3, 5] [] [] (fun m st => ∃ k : Nat, m = s.length + 1 - k ∧ 1 ≤ k ∧ k ≤ s.length + 1 ∧ refText 1 r = refText k (s.drop k) ∧ st = ⟨[(0, .str s), (2, .int .i64 0), (3, .int .i64 0), (5, .int .i64 k)], []⟩) s.length ?_ ?_
          · conv => whnf
            exact ⟨1, by omega, by omega, by omega, by rw [hdr 0, List.drop_zero], rfl⟩
          · rintro m st ⟨k, rfl, hk1, hk, he, rfl⟩
            conv => whnf
            refine branch_of (fun h2 => ?_) (fun h2 => ?_)
            · have h2 := of_decide_eq_true h2
              have hk' : k < s.length := by omega
              have hw1 : IntKind.i64.wrap ((k : Int) + 1) = (k + 1 : Nat) := by rw [wr (by omega) (by omega)]; rfl
              have hw2 : IntKind.i64.wrap (((k + 1 : Nat) : Int) + 1) = (k + 2 : Nat) := by rw [wr (by omega) (by omega)]; rfl
              rw [drop_cons hk'] at he
              conv => whnf
              refine ⟨s[k], idx hk' rfl, ?_⟩
              conv => whnf
              refine branch_of (fun h3 => ?_) (fun h3 => ?_)
              · rw [Bool.not_eq_true'] at h3
                have h3 := of_decide_eq_false h3
                conv => whnf
                refine ⟨s[k], idx hk' rfl, ?_⟩
                conv => whnf
                refine branch_of (fun h4 => ?_) (fun h4 => ?_)
                · have h4 := of_decide_eq_true h4
                  conv => whnf
                  rw [hw1, hw2]
                  refine ⟨s.length + 1 - (k + 2), by omega, k + 2, rfl, by omega, by omega, ?_, rfl⟩
                  rw [he]
                  by_cases hk2 : k + 1 < s.length
                  · rw [drop_cons hk2, refText_esc (by omega)]
                  · have h1 : s.drop (k + 1) = [] := List.drop_eq_nil_iff.2 (by omega)
                    have h2 : s.drop (k + 2) = [] := List.drop_eq_nil_iff.2 (by omega)
                    rw [h1, h2, refText_end (by omega)]; rfl
                · have h4 := of_decide_eq_false h4
                  conv => whnf
                  rw [hw1]
                  refine ⟨s.length + 1 - (k + 1), by omega, k + 1, rfl, by omega, by omega, ?_, rfl⟩
                  rw [he, refText_step (by omega) (by omega)]
              · rw [Bool.not_eq_false'] at h3
                have h3 := of_decide_eq_true h3
                rw [refText_quote (by omega)] at he
                conv => whnf
                exact ⟨k, by omega, .inl ⟨hk', he⟩, rfl⟩
            · have h2 := of_decide_eq_false h2
              have hd : s.drop k = [] := List.drop_eq_nil_iff.2 (by omega)
              rw [hd] at he
              conv => whnf
              exact ⟨k, hk, .inr ⟨by omega, he⟩, rfl⟩
        rintro st ⟨q, hq0, hq, rfl⟩
        conv => whnf
        refine branch_of (fun h2 => ?_) (fun h2 => ?_)
        · have h2 := of_decide_eq_true h2
          have h3 : refText 1 r = 0 := by rcases hq with ⟨h3, _⟩ | ⟨_, h3⟩; omega; exact h3
          rw [if_pos h3] at e
          conv => whnf
          exact fin0 (by rw [e]; rfl) trivial
        · have h2 := of_decide_eq_false h2
          have h3 : refText 1 r = q + 1 := by rcases hq with ⟨_, h3⟩ | ⟨h3, _⟩; exact h3; omega
          rw [if_neg (by omega), h3] at e
          conv => whnf
          refine fin0 ?_ trivial
          rw [e, wr (by omega) (by omega)]; rfl
      · have hn3 : c.toNat ≠ 34 := by have := of_decide_eq_false h; omega
        have es : refSign s = if twoB (s.take 2) then (5, 2) else if c ∈ signs1 then (5, 1) else (0, 0) := by
          conv => lhs; rw [hcr]
          rw [refSign, if_neg hn, if_neg hn2, if_neg hn3, ← hcr]
        conv => whnf
        refine seq_of hP [0, 2, 3, 4, 5, 6, 9, 25, 29, 32, 58, 62, 74, 78, 86, 91, 107, 109] [200003, 200009, 100001, 100003, 100005, 91] [0, 2, 3, 4, 6] [] [] (fun st => ∃ w : Bs, twoB w = twoB (s.take 2) ∧ st = ⟨[(0, .str s), (2, .int .i64 0), (3, .int .i64 0), (4, .int .u8 c.toNat), (6, .str w)], []⟩) ?_ ?_
        · conv => whnf
          refine branch_of (fun h2 => ?_) (fun h2 => ?_)
          · have h2 := of_decide_eq_true h2
            conv => whnf
            refine ⟨⟨⟩, by dsimp only; omega, ?_⟩
            conv => whnf
            exact ⟨s.take 2, rfl, rfl⟩
          · have h2 := of_decide_eq_false h2
            have hr : r = [] := List.eq_nil_of_length_eq_zero (by omega)
            conv => whnf
            refine ⟨[], ?_, rfl⟩
            rw [hcr, hr]; simp [twoB]
        rintro st ⟨w, htw, rfl⟩
        conv => whnf
        refine branch_of (fun h => ?_) (fun t0 => ?_)
        · have h : w = [33, 61] := of_decide_eq_true h
          have e : refSign s = (5, 2) := by rw [es, ← htw, if_pos (by rw [h]; rfl)]
          conv => whnf
          exact fin0 (by rw [e]; rfl) trivial
        have t0 : w ≠ [33, 61] := of_decide_eq_false t0
        conv => whnf
        refine branch_of (fun h => ?_) (fun t1 => ?_)
        · have h : w = [60, 61] := of_decide_eq_true h
          have e : refSign s = (5, 2) := by rw [es, ← htw, if_pos (by rw [h]; rfl)]
          conv => whnf
          exact fin0 (by rw [e]; rfl) trivial
        have t1 : w ≠ [60, 61] := of_decide_eq_false t1
        conv => whnf
        refine branch_of (fun h => ?_) (fun t2 => ?_)
        · have h : w = [45, 62] := of_decide_eq_true h
          have e : refSign s = (5, 2) := by rw [es, ← htw, if_pos (by rw [h]; rfl)]
          conv => whnf
          exact fin0 (by rw [e]; rfl) trivial
        have t2 : w ≠ [45, 62] := of_decide_eq_false t2
        conv => whnf
        refine branch_of (fun h => ?_) (fun t3 => ?_)
        · have h : w = [61, 62] := of_decide_eq_true h
          have e : refSign s = (5, 2) := by rw [es, ← htw, if_pos (by rw [h]; rfl)]
          conv => whnf
          exact fin0 (by rw [e]; rfl) trivial
        have t3 : w ≠ [61, 62] := of_decide_eq_false t3
        have hw : twoB w = false := by simp [twoB, t0, t1, t2, t3]
        rw [← htw, hw, if_neg (by simp)] at es
        conv => whnf
        refine call0 (single_good c) ?_
        cases hm : decide (c ∈ signs1) with
        | true =>
          rw [if_pos (of_decide_eq_true hm)] at es
          conv => whnf
          exact fin0 (by rw [es]; rfl) trivial
        | false =>
          rw [if_neg (of_decide_eq_false hm)] at es
          conv => whnf
          exact fin0 (by rw [es]; rfl) trivial
end Go.PV
namespace Go.PV
open Go Go.Proofs
set_option maxRecDepth 100000
theorem rlex_good (s : Bs) (hs : s.length ≤ 20000) : Good Tryz.prog 67 [.str s] [] [.sl 4 (toksV (toksR s)), .agg [.int .i64 (posR s).1, .int .i64 (posR s).2], .int .i64 (errR s)] [] := by
  refine good_of hP Tryz.func67 (by kernel_rfl) (lv := [0, 2, 3, 4, 5, 6, 7, 8, 9, 10, 11, 12, 16, 22, 45, 59, 74, 90, 95, 107]) (js := [100002, 100003, 100005]) ⟨rfl, rfl, rfl, rfl, rfl, rfl, _, rfl, ?_⟩
  conv => whnf
  refine branch_of (fun h => absurd (of_decide_eq_true h) (by omega)) (fun _ => ?_)
  conv => whnf
  refine loop_of hP [0, 2, 3, 4, 5, 6, 7, 8, 9, 10, 11, 12, 16, 22, 45, 59, 74, 90, 95, 107] [100002, 100003, 100005] [0, 2, 3, 4, 5, 6, 7, 8] [67, 69, 70, 71] [.slot 6 4] (fun m st => ∃ (i f : Nat) (acc : List Tok), m = s.length - i ∧ i ≤ s.length ∧ s.length ≤ f + i ∧ acc.length ≤ i ∧ toksS s = (acc ++ (toksGo s f (i + blanksN false (s.drop i))).1, (toksGo s f (i + blanksN false (s.drop i))).2) ∧
    st = ⟨[(0, .str s), (2, .nil), (3, .ptr 67 0 0), (4, .int .i64 0), (5, .ptr 69 0 0), (6, .own 70 0), (7, .ptr 71 0 0), (8, .int .i64 i)], [(67, .box 0 [.int .i64 0, .int .i64 0]), (69, .box 0 [.int .i64 0, .int .i64 0]), (70, .arr 0 false 4 (toksV acc)), (71, .box 0 [.int .i64 (posS (s.take i)).1, .int .i64 (posS (s.take i)).2])]⟩) s.length ?_ ?_
  · conv => whnf
    exact ⟨0, s.length, [], rfl, Nat.zero_le _, by omega, Nat.zero_le _, by rw [List.drop_zero, Nat.zero_add]; rfl, rfl⟩
  · rintro m st ⟨i, f, acc, rfl, hi, hf, hacc, he, rfl⟩
    conv => whnf
    refine branch_of (fun h => ?_) (fun h => ?_)
    · have h := of_decide_eq_true h
      have hi' : i < s.length := by omega
      conv => whnf
      refine ⟨s[i], idx hi' rfl, ?_⟩
      conv => whnf
      refine seq_of hP [0, 2, 3, 4, 5, 6, 7, 8, 9, 10, 11, 12, 16, 22, 45, 59, 74, 90, 95, 107] [100002, 100003, 100005] [0, 2, 3, 4, 5, 6, 7, 8, 10] [67, 69, 70, 71] [] (fun st => ∃ (n f : Nat) (acc : List Tok), 1 ≤ n ∧ i + n ≤ s.length ∧ s.length ≤ f + (i + n) ∧ acc.length ≤ i + n ∧ toksS s = (acc ++ (toksGo s f (i + n + blanksN false (s.drop (i + n)))).1, (toksGo s f (i + n + blanksN false (s.drop (i + n)))).2) ∧
        st = ⟨[(0, .str s), (2, .nil), (3, .ptr 67 0 0), (4, .int .i64 0), (5, .ptr 69 0 0), (6, .own 70 0), (7, .ptr 71 0 0), (8, .int .i64 i), (10, .int .i64 n)], [(67, .box 0 [.int .i64 0, .int .i64 0]), (69, .box 0 [.int .i64 0, .int .i64 0]), (70, .arr 0 false 4 (toksV acc)), (71, .box 0 [.int .i64 (posS (s.take i)).1, .int .i64 (posS (s.take i)).2])]⟩) ?_ ?_
      · conv => whnf
        have hb : s[i].toNat ≠ 37 → blankB s[i] = true → blanksN false (s.drop i) = 1 + blanksN false (s.drop (i + 1)) := fun h1 h2 => by
          rw [drop_cons hi', blanksN, if_neg h1, if_pos h2]
        have hone : blankB s[i] = true → i + 1 ≤ s.length ∧ toksS s = (acc ++ (toksGo s f (i + 1 + blanksN false (s.drop (i + 1)))).1, (toksGo s f (i + 1 + blanksN false (s.drop (i + 1)))).2) := fun h2 => by
          have h1 : s[i].toNat ≠ 37 := by simp [blankB] at h2; omega
          rw [hb h1 h2, ← Nat.add_assoc] at he
          exact ⟨by omega, he⟩
        refine branch_of (fun h1 => ?_) (fun b0 => ?_)
        · obtain ⟨q1, q2⟩ := hone (by have := of_decide_eq_true h1; simp [blankB]; omega)
          conv => whnf
          exact ⟨1, f, acc, Nat.le_refl _, q1, by omega, by omega, q2, rfl⟩
        have b0 := of_decide_eq_false b0
        conv => whnf
        refine branch_of (fun h1 => ?_) (fun b1 => ?_)
        · obtain ⟨q1, q2⟩ := hone (by have := of_decide_eq_true h1; simp [blankB]; omega)
          conv => whnf
          exact ⟨1, f, acc, Nat.le_refl _, q1, by omega, by omega, q2, rfl⟩
        have b1 := of_decide_eq_false b1
        conv => whnf
        refine branch_of (fun h1 => ?_) (fun b2 => ?_)
        · obtain ⟨q1, q2⟩ := hone (by have := of_decide_eq_true h1; simp [blankB]; omega)
          conv => whnf
          exact ⟨1, f, acc, Nat.le_refl _, q1, by omega, by omega, q2, rfl⟩
        have b2 := of_decide_eq_false b2
        conv => whnf
        refine branch_of (fun h1 => ?_) (fun b3 => ?_)
        · obtain ⟨q1, q2⟩ := hone (by have := of_decide_eq_true h1; simp [blankB]; omega)
          conv => whnf
          exact ⟨1, f, acc, Nat.le_refl _, q1, by omega, by omega, q2, rfl⟩
        have b3 := of_decide_eq_false b3
        conv => whnf
        refine branch_of (fun h1 => ?_) (fun h1 => ?_)
        · have h1 := of_decide_eq_true h1
          have hl := lineN_le (s.drop i)
          rw [List.length_drop] at hl
          have hl1 : 1 ≤ lineN (s.drop i) := by
            rw [drop_cons hi']; unfold lineN; rw [List.takeWhile_cons, if_pos (by simp; omega)]; simp
          have done : ∀ k, lineN (s.drop i) = k → 1 ≤ k ∧ i + k ≤ s.length ∧ s.length ≤ f + (i + k) ∧ acc.length ≤ i + k ∧ toksS s = (acc ++ (toksGo s f (i + k + blanksN false (s.drop (i + k)))).1, (toksGo s f (i + k + blanksN false (s.drop (i + k)))).2) := fun k hk => by
            subst hk
            have e2 := blanksN_line (s.drop i)
            have e3 : blanksN true (s.drop i) = 1 + blanksN true (s.drop (i + 1)) := by rw [drop_cons hi', blanksN, if_neg (by omega)]
            have e4 : blanksN false (s.drop i) = 1 + blanksN true (s.drop (i + 1)) := by rw [drop_cons hi', blanksN, if_pos (by omega)]
            rw [List.drop_drop] at e2
            rw [e4, ← e3, e2, ← Nat.add_assoc] at he
            exact ⟨hl1, by omega, by omega, by omega, he⟩
          conv => whnf
          refine loop_of hP [0, 2, 3, 4, 5, 6, 7, 8, 9, 10, 11, 12, 16, 22, 45, 59, 74, 90, 95, 107] [100002, 100003, 100005] [0, 2, 3, 4, 5, 6, 7, 8, 10] [67, 69, 70, 71] [] (fun m st => ∃ k : Nat, m = s.length - k ∧ i + k ≤ s.length ∧ lineN (s.drop i) = k + lineN (s.drop (i + k)) ∧ st = ⟨[(0, .str s), (2, .nil), (3, .ptr 67 0 0), (4, .int .i64 0), (5, .ptr 69 0 0), (6, .own 70 0), (7, .ptr 71 0 0), (8, .int .i64 i), (10, .int .i64 k)], [(67, .box 0 [.int .i64 0, .int .i64 0]), (69, .box 0 [.int .i64 0, .int .i64 0]), (70, .arr 0 false 4 (toksV acc)), (71, .box 0 [.int .i64 (posS (s.take i)).1, .int .i64 (posS (s.take i)).2])]⟩) s.length ?_ ?_
          · conv => whnf
            exact ⟨0, rfl, by omega, by simp, rfl⟩
          · rintro m st ⟨k, rfl, hk, hln, rfl⟩
            have hw : IntKind.i64.wrap ((i : Int) + (k : Int)) = (i + k : Nat) := by rw [wr (by omega) (by omega)]; omega
            have hw4 : IntKind.i64.wrap ((k : Int) + 1) = (k + 1 : Nat) := by rw [wr (by omega) (by omega)]; rfl
            conv => whnf
            rw [hw]
            refine branch_of (fun h2 => ?_) (fun h2 => ?_)
            · have h2 := of_decide_eq_true h2
              have hk' : i + k < s.length := by omega
              conv => whnf
              refine ⟨s[i + k], idx hk' hw, ?_⟩
              conv => whnf
              refine branch_of (fun h3 => ?_) (fun h3 => ?_)
              · rw [Bool.not_eq_true'] at h3
                have h3 := of_decide_eq_false h3
                have e : lineN (s.drop (i + k)) = 1 + lineN (s.drop (i + k + 1)) := by
                  rw [drop_cons hk']; unfold lineN; rw [List.takeWhile_cons, if_pos (by simp; omega), List.length_cons]; omega
                conv => whnf
                refine ⟨s.length - (k + 1), by omega, k + 1, rfl, by omega, by rw [hln, e, Nat.add_assoc i k 1]; omega, ?_⟩
                rw [hw4]
              · rw [Bool.not_eq_false'] at h3
                have h3 := of_decide_eq_true h3
                have e : lineN (s.drop (i + k)) = 0 := by
                  rw [drop_cons hk']; unfold lineN; rw [List.takeWhile_cons, if_neg (by simp; omega)]; rfl
                obtain ⟨d1, d2, d3, d4, d5⟩ := done k (by omega)
                conv => whnf
                exact ⟨k, f, acc, d1, d2, d3, d4, d5, rfl⟩
            · have h2 := of_decide_eq_false h2
              have hd : s.drop (i + k) = [] := List.drop_eq_nil_iff.2 (by omega)
              have e : lineN (s.drop (i + k)) = 0 := by rw [hd]; rfl
              obtain ⟨d1, d2, d3, d4, d5⟩ := done k (by omega)
              conv => whnf
              exact ⟨k, f, acc, d1, d2, d3, d4, d5, rfl⟩
        · have h1 := of_decide_eq_false h1
          have hz : blanksN false (s.drop i) = 0 := by
            rw [drop_cons hi', blanksN, if_neg (by omega), if_neg (by simp [blankB]; omega)]
          rw [hz, Nat.add_zero] at he
          obtain ⟨f, rfl⟩ : ∃ f', f = f' + 1 := ⟨f - 1, by omega⟩
          rw [toksGo, if_pos hi'] at he
          dsimp only at he
          have hne : s.drop i ≠ [] := fun e => by have := congrArg List.length e; simp at this; omega
          obtain ⟨sr1, sr2⟩ := sign_ref (s.drop i) hne
          have hnl := nextS_le (s.drop i)
          rw [List.length_drop] at hnl
          conv => whnf
          refine ⟨⟨⟩, by dsimp only; omega, ?_⟩
          conv => whnf
          refine call0 (rsign_good (s.drop i) (by simp; omega) hne) ?_
          cases hx : (nextS (s.drop i)).2.2 with
          | true =>
            have sr2 := sr2 hx
            have hp := nextS_pos hx
            rw [hx, if_pos rfl] at he
            rw [hx, sr2] at sr1
            rw [sr2]
            dsimp only at sr1 ⊢
            generalize hN : (nextS (s.drop i)).2.1 = N at *
            generalize hK : (nextS (s.drop i)).1 = K at *
            have sr1 := sr1.symm
            rw [Bool.and_eq_true, decide_eq_true_eq] at sr1
            have hw : IntKind.i64.wrap ((i : Int) + (N : Int)) = (i + N : Nat) := by rw [wr (by omega) (by omega)]; omega
            have htx : (s.take (i + N)).drop i = (s.drop i).take N := by rw [List.drop_take, Nat.add_sub_cancel_left]
            conv => whnf
            refine branch_of (fun h2 => absurd (of_decide_eq_true h2) sr1.1) (fun h2 => ?_)
            conv => whnf
            refine ⟨⟨⟩, by dsimp only; rw [hw]; omega, ?_⟩
            conv => whnf
            refine call0 (right_good K ((s.drop i).take N) (by simp; omega)) ?_ (by rw [hw, ← htx]; rfl)
            rw [sr1.2]
            conv => whnf
            refine ⟨⟨⟩, by dsimp only; rw [hw]; omega, ?_⟩
            conv => whnf
            refine ⟨⟨⟩, by dsimp only; simp only [List.length_map, List.length_cons, List.length_nil]; omega, ?_⟩
            conv => whnf
            refine ⟨by kernel_rfl, ?_⟩
            conv => whnf
            refine ⟨N, f, acc ++ [⟨K, (s.drop i).take N, posS (s.take i)⟩], hp, by omega, by omega, by simp; omega, by rw [he]; simp, ?_⟩
            rw [hw, show toksV (acc ++ [⟨K, (s.drop i).take N, posS (s.take i)⟩]) = toksV acc ++ [Tok.c ⟨K, (s.drop i).take N, posS (s.take i)⟩] from List.map_append]
            show _ = (⟨_, [_, _, (70, .arr 0 false 4 (toksV acc ++ [[.int .i64 K, .str ((s.drop i).take N), .int .i64 (posS (s.take i)).1, .int .i64 (posS (s.take i)).2]])), _]⟩ : St)
            rw [← htx]; rfl
          | false =>
            rw [hx, if_neg (by simp)] at he
            rw [hx] at sr1
            generalize hR : refSign (s.drop i) = R at *
            have hRl := refSign_le (s.drop i)
            rw [hR, List.length_drop] at hRl
            obtain ⟨K, N⟩ := R
            dsimp only at sr1 hRl ⊢
            have hw : IntKind.i64.wrap ((i : Int) + (N : Int)) = (i + N : Nat) := by rw [wr (by omega) (by omega)]; omega
            have htx : (s.take (i + N)).drop i = (s.drop i).take N := by rw [List.drop_take, Nat.add_sub_cancel_left]
            conv => whnf
            refine branch_of (fun h2 => ?_) (fun h2 => ?_)
            · conv => whnf
              refine ⟨by kernel_rfl, ?_⟩
              conv => whnf
              refine fin0 ?_ trivial
              simp [toksR, errR, posR, he]
            · have h2 := of_decide_eq_false h2
              have hrr : refRight K ((s.drop i).take N) = false := by simpa [h2] using sr1.symm
              conv => whnf
              refine ⟨⟨⟩, by dsimp only; rw [hw]; omega, ?_⟩
              conv => whnf
              refine call0 (right_good K ((s.drop i).take N) (by simp; omega)) ?_ (by rw [hw, ← htx]; rfl)
              rw [hrr]
              conv => whnf
              refine ⟨by kernel_rfl, ?_⟩
              conv => whnf
              refine fin0 ?_ trivial
              simp [toksR, errR, posR, he]
      · rintro st ⟨n, f, acc, hn1, hn, hf, hacc, he, rfl⟩
        conv => whnf
        refine seq_of hP [0, 2, 3, 4, 5, 6, 7, 8, 9, 10, 11, 12, 16, 22, 45, 59, 74, 90, 95, 107] [100002, 100003, 100005] [0, 2, 3, 4, 5, 6, 7, 8, 10] [67, 69, 70, 71] [] (fun st => st = ⟨[(0, .str s), (2, .nil), (3, .ptr 67 0 0), (4, .int .i64 0), (5, .ptr 69 0 0), (6, .own 70 0), (7, .ptr 71 0 0), (8, .int .i64 i), (10, .int .i64 n)], [(67, .box 0 [.int .i64 0, .int .i64 0]), (69, .box 0 [.int .i64 0, .int .i64 0]), (70, .arr 0 false 4 (toksV acc)), (71, .box 0 [.int .i64 (posS (s.take (i + n))).1, .int .i64 (posS (s.take (i + n))).2])]⟩) ?_ ?_
        · conv => whnf
          refine loop_of hP [0, 2, 3, 4, 5, 6, 7, 8, 9, 10, 11, 12, 16, 22, 45, 59, 74, 90, 95, 107] [100002, 100003, 100005] [0, 2, 3, 4, 5, 6, 7, 8, 10, 12] [67, 69, 70, 71] [] (fun m st => ∃ k : Nat, m = n - k ∧ k ≤ n ∧ st = ⟨[(0, .str s), (2, .nil), (3, .ptr 67 0 0), (4, .int .i64 0), (5, .ptr 69 0 0), (6, .own 70 0), (7, .ptr 71 0 0), (8, .int .i64 i), (10, .int .i64 n), (12, .int .i64 k)], [(67, .box 0 [.int .i64 0, .int .i64 0]), (69, .box 0 [.int .i64 0, .int .i64 0]), (70, .arr 0 false 4 (toksV acc)), (71, .box 0 [.int .i64 (posS (s.take (i + k))).1, .int .i64 (posS (s.take (i + k))).2])]⟩) n ?_ ?_
          · conv => whnf
            exact ⟨0, rfl, Nat.zero_le _, rfl⟩
          · rintro m st ⟨k, rfl, hk, rfl⟩
            have hp := posS_le s (i + k) (by omega)
            conv => whnf
            refine branch_of (fun h => ?_) (fun h => ?_)
            · have h := of_decide_eq_true h
              have hk' : i + k < s.length := by omega
              have hw0 : IntKind.i64.wrap ((i : Int) + (k : Int)) = (i + k : Nat) := by rw [wr (by omega) (by omega)]; omega
              have hpos := posS_snoc s hk'
              have hw1 : IntKind.i64.wrap ((posS (s.take (i + k))).2 + 1) = (posS (s.take (i + k))).2 + 1 := wr (by omega) (by omega)
              have hw2 : IntKind.i64.wrap ((posS (s.take (i + k))).1 + 1) = (posS (s.take (i + k))).1 + 1 := wr (by omega) (by omega)
              have hw4 : IntKind.i64.wrap ((k : Int) + 1) = (k + 1 : Nat) := by rw [wr (by omega) (by omega)]; rfl
              conv => whnf
              refine ⟨s[i + k], idx hk' hw0, ?_⟩
              conv => whnf
              refine branch_of (fun h => ?_) (fun h => ?_)
              · have h := of_decide_eq_true h
                rw [if_pos (by omega)] at hpos
                conv => whnf
                refine ⟨n - (k + 1), by omega, k + 1, rfl, by omega, ?_⟩
                rw [hw2, hw4, ← Nat.add_assoc, hpos]
              · have h := of_decide_eq_false h
                rw [if_neg (by omega)] at hpos
                conv => whnf
                refine ⟨n - (k + 1), by omega, k + 1, rfl, by omega, ?_⟩
                rw [hw1, hw4, ← Nat.add_assoc, hpos]
            · have h := of_decide_eq_false h
              have : k = n := by omega
              subst this
              conv => whnf
        rintro st rfl
        conv => whnf
        have hw0 : IntKind.i64.wrap ((i : Int) + (n : Int)) = (i + n : Nat) := by rw [wr (by omega) (by omega)]; omega
        refine ⟨s.length - (i + n), by omega, i + n, f, acc, rfl, hn, hf, hacc, he, ?_⟩
        rw [hw0]
    · have h := of_decide_eq_false h
      have hd : s.drop i = [] := List.drop_eq_nil_iff.2 (by omega)
      have hg : toksGo s f (i + blanksN false (s.drop i)) = ([], none) := by
        cases f with
        | zero => rfl
        | succ f => rw [toksGo, if_neg (by omega)]
      rw [hg, List.append_nil] at he
      conv => whnf
      refine ⟨by kernel_rfl, ?_⟩
      conv => whnf
      refine fin0 ?_ trivial
      simp [toksR, errR, posR, he]
end Go.PV
namespace Go.PV
open Go Go.Proofs
set_option maxRecDepth 100000
theorem plainB_in (c : UInt8) : plainB c = decide ((32 : Int) ≤ (c.toNat : Int) ∧ (c.toNat : Int) ≤ 126) := by
  unfold plainB inB
  rw [Bool.eq_iff_iff]; simp; omega
/-- the page's right value -/
theorem refValue_good (v : Val) (hs : v.s.length ≤ 1000000) : Good Tryz.prog 136 [.agg v.c] [] [.bool (checkS v)] [] := by
  obtain ⟨k, n, s⟩ := v
  dsimp only at hs
  refine good_of hP Tryz.func136 (by kernel_rfl) (lv := [0, 1, 2, 3, 5, 6, 17, 27, 37, 42, 51]) (js := []) ⟨rfl, rfl, rfl, rfl, rfl, rfl, _, rfl, ?_⟩
  unfold checkS
  dsimp only
  conv => whnf
  refine branch_of (fun h => ?_) (fun h => ?_)
  · have h : k = 1 := of_decide_eq_true h
    rw [if_pos h]
    conv => whnf
    refine call0 (in_good n (-4611686018427387904) 4611686018427387904) ?_
    unfold inR
    refine branch_of (fun h2 => ?_) (fun h2 => ?_)
    · rw [h2]
      conv => whnf
      have e : decide ((s.length : Int) = 0) = decide (s = []) := by
        rw [decide_eq_decide]; constructor
        · intro e; exact List.eq_nil_of_length_eq_zero (by omega)
        · intro e; subst e; rfl
      exact fin0 (by rw [Bool.true_and, ← e]) trivial
    · rw [h2]
      conv => whnf
      exact fin0 rfl trivial
  have h : ¬ k = 1 := of_decide_eq_false h
  rw [if_neg h]
  conv => whnf
  refine branch_of (fun h3 => ?_) (fun h3 => ?_)
  · have h3 : k = 2 := of_decide_eq_true h3
    rw [if_pos h3]
    conv => whnf
    refine branch_of (fun h4 => ?_) (fun h4 => ?_)
    · rw [h4]
      conv => whnf
      refine call0 (word_good s false hs) ?_
      rw [symbol_word]
      conv => whnf
      exact fin0 rfl trivial
    · rw [h4]
      conv => whnf
      exact fin0 rfl trivial
  have h3 : ¬ k = 2 := of_decide_eq_false h3
  rw [if_neg h3]
  conv => whnf
  refine branch_of (fun h5 => ?_) (fun h5 => ?_)
  · have h5 : k = 3 := of_decide_eq_true h5
    rw [if_pos h5]
    conv => whnf
    refine branch_of (fun h6 => ?_) (fun h6 => ?_)
    · rw [Bool.not_eq_true'] at h6
      rw [h6]
      conv => whnf
      exact fin0 rfl trivial
    rw [Bool.not_eq_false'] at h6
    rw [h6, Bool.true_and]
    conv => whnf
    refine branch_of (fun h7 => ?_) (fun h7 => ?_)
    · have h7 := of_decide_eq_true h7
      dsimp only at h7
      conv => whnf
      exact fin0 (by unfold plainS; rw [decide_eq_false (by omega), Bool.and_false]) trivial
    have h7 := of_decide_eq_false h7
    dsimp only at h7
    have e : plainS s = s.all plainB := by unfold plainS; rw [decide_eq_true (by omega), Bool.and_true]
    rw [e]
    conv => whnf
    refine loop_of hP [0, 1, 2, 3, 5, 6, 17, 27, 37, 42, 51] [] [1, 2, 3] [65] [] (fun m st => ∃ i : Nat, m = s.length - i ∧ i ≤ s.length ∧ s.all plainB = (s.drop i).all plainB ∧ st = ⟨[(1, .ptr 65 0 0), (2, .bool false), (3, .int .i64 i)], [(65, .box 0 (Val.c ⟨k, n, s⟩))]⟩) s.length ?_ ?_
    · conv => whnf
      exact ⟨0, rfl, Nat.zero_le _, rfl, rfl⟩
    · rintro m st ⟨i, rfl, hi, he, rfl⟩
      conv => whnf
      refine branch_of (fun h8 => ?_) (fun h8 => ?_)
      · have h8 := of_decide_eq_true h8
        have hi' : i < s.length := by dsimp only at h8; omega
        conv => whnf
        refine ⟨s[i], idx hi' rfl, ?_⟩
        conv => whnf
        have hw : IntKind.i64.wrap (s[i].toNat : Int) = s[i].toNat := by have := s[i].toNat_lt; rw [wr (by omega) (by omega)]
        rw [hw]
        refine call0 (in_good s[i].toNat 32 126) ?_
        rw [← plainB_in]
        rw [all_drop hi'] at he
        cases hp : plainB s[i] with
        | false =>
          rw [hp, Bool.false_and] at he
          rw [he]
          conv => whnf
          exact fin0 rfl trivial
        | true =>
          rw [hp, Bool.true_and] at he
          conv => whnf
          refine ⟨s.length - (i + 1), by omega, i + 1, rfl, by omega, he, ?_⟩
          rw [wr (by omega) (by omega)]; rfl
      · have h8 := of_decide_eq_false h8
        have h9 : s.drop i = [] := List.drop_eq_nil_iff.2 (by dsimp only at h8; omega)
        rw [h9] at he
        rw [he]
        conv => whnf
        exact fin0 rfl trivial
  · have h5 : ¬ k = 3 := of_decide_eq_false h5
    rw [if_neg h5]
    conv => whnf
    exact fin0 rfl trivial
/-- the page's right expression -/
theorem refExpr_good (l : List Stp) (hb : opsB l) : Good Tryz.prog 118 [.sl 5 (stpV l)] [] [.bool (exprOk l)] [] := by
  obtain ⟨hl, ho⟩ := hb
  refine good_of hP Tryz.func118 (by kernel_rfl) (lv := [0, 2, 3, 4, 5, 9, 13, 21, 22, 33, 36, 47, 50, 67]) (js := [50]) ⟨rfl, rfl, rfl, rfl, rfl, rfl, _, rfl, ?_⟩
  conv => whnf
  refine call0 (in_good (stpV l).length 1 15) ?_
  rw [List.length_map]
  cases hle : decide ((1 : Int) ≤ (l.length : Int) ∧ (l.length : Int) ≤ 15) with
  | false =>
    have h := of_decide_eq_false hle
    have e : exprOk l = false := by unfold exprOk; rw [decide_eq_false (by omega), Bool.false_and]
    rw [e]
    conv => whnf
    exact fin0 rfl trivial
  | true =>
  have h := of_decide_eq_true hle
  have e : exprOk l = decide (depGo 0 l = some 1) := by
    have : decide (1 ≤ l.length ∧ l.length ≤ 15) = true := by simp; omega
    rw [exprOk, this, Bool.true_and]
  rw [e]
  conv => whnf
  refine loop_of hP [0, 2, 3, 4, 5, 9, 13, 21, 22, 33, 36, 47, 50, 67] [50] [0, 2, 3, 4] [] [] (fun n st => ∃ k d : Nat, n = l.length - k ∧ k ≤ l.length ∧ d ≤ k ∧ depGo 0 l = depGo d (l.drop k) ∧ st = ⟨[(0, .sl 5 (stpV l)), (2, .bool false), (3, .int .i64 d), (4, .int .i64 k)], []⟩) l.length ?_ ?_
  · conv => whnf
    exact ⟨0, 0, rfl, Nat.zero_le _, Nat.le_refl _, rfl, rfl⟩
  · rintro n st ⟨k, d, rfl, hk, hd, he, rfl⟩
    conv => whnf
    refine branch_of (fun h3 => ?_) (fun h3 => ?_)
    · have h3 := of_decide_eq_true h3
      rw [List.length_map] at h3
      have hk' : k < l.length := by omega
      rw [List.drop_eq_getElem_cons hk', depGo] at he
      conv => whnf
      refine ⟨Stp.c l[k], idxM hk' rfl, ?_⟩
      conv => whnf
      obtain ⟨b1, b2⟩ := ho _ (List.getElem_mem hk')
      generalize l[k] = o at *
      obtain ⟨ok, ov, ox⟩ := o
      dsimp only at b1 b2 he
      unfold stpOk at he
      dsimp only at he
      refine branch_of (fun g1 => ?_) (fun g1 => ?_)
      · have g1 : ok = 1 := of_decide_eq_true g1
        rw [if_pos g1] at he
        conv => whnf
        refine call0 (word_good ov true b1) ?_
        have ev : varS ov = refWordS true ov := rfl
        rw [← ev]
        cases hv : varS ov with
        | false =>
          rw [hv, Bool.false_and, if_neg (by simp)] at he
          rw [he]
          conv => whnf
          exact fin0 rfl trivial
        | true =>
          rw [hv, Bool.true_and] at he
          conv => whnf
          refine ⟨_, (eqVal ox zeroV).2, ?_⟩
          conv => whnf
          by_cases hz : ox = zeroV
          · rw [decide_eq_true hz] at he ⊢
            rw [if_pos rfl, if_pos (by omega)] at he
            conv => whnf
            refine ⟨l.length - (k + 1), by omega, k + 1, d + 1, rfl, by omega, by omega, he, ?_⟩
            rw [wr (by omega) (by omega), wr (by omega) (by omega)]; rfl
          · rw [decide_eq_false hz] at he ⊢
            rw [if_neg (by simp)] at he
            rw [he]
            conv => whnf
            exact fin0 rfl trivial
      have g1 : ¬ ok = 1 := of_decide_eq_false g1
      rw [if_neg g1] at he
      conv => whnf
      refine branch_of (fun g2 => ?_) (fun g2 => ?_)
      · have g2 : ok = 2 := of_decide_eq_true g2
        rw [if_pos g2] at he
        conv => whnf
        refine branch_of (fun g3 => ?_) (fun g3 => ?_)
        · have g3 := of_decide_eq_true g3
          have : ov ≠ [] := by rintro rfl; exact absurd g3 (show ¬ (0 : Int) < 0 by omega)
          rw [decide_eq_false this, Bool.false_and, if_neg (by simp)] at he
          rw [he]
          conv => whnf
          exact fin0 rfl trivial
        have g3 := of_decide_eq_false g3
        have hov : ov = [] := List.eq_nil_of_length_eq_zero (by dsimp only at g3; omega)
        rw [decide_eq_true hov, Bool.true_and] at he
        conv => whnf
        refine call0 (refValue_good ox b2) ?_
        cases hc : checkS ox with
        | false =>
          rw [hc, if_neg (by simp)] at he
          rw [he]
          conv => whnf
          exact fin0 rfl trivial
        | true =>
          rw [hc, if_pos rfl, if_pos (by omega)] at he
          conv => whnf
          refine ⟨l.length - (k + 1), by omega, k + 1, d + 1, rfl, by omega, by omega, he, ?_⟩
          rw [wr (by omega) (by omega), wr (by omega) (by omega)]; rfl
      have g2 : ¬ ok = 2 := of_decide_eq_false g2
      rw [if_neg g2] at he
      conv => whnf
      refine seq_of hP [0, 2, 3, 4, 5, 9, 13, 21, 22, 33, 36, 47, 50, 67] [50] [0, 2, 3, 4, 5, 50] [69] [] (fun st => st = ⟨[(0, .sl 5 (stpV l)), (2, .bool false), (3, .int .i64 d), (4, .int .i64 k), (5, .ptr 69 0 0), (50, .bool (decide (ok = 3 ∨ ok = 4 ∨ ok = 5)))], [(69, .box 0 (Stp.c ⟨ok, ov, ox⟩))]⟩) ?_ ?_
      · conv => whnf
        refine branch_of (fun g4 => ?_) (fun g4 => ?_)
        · have h4 : ok = 3 := of_decide_eq_true g4
          conv => whnf
          have e : decide (ok = 3 ∨ ok = 4 ∨ ok = 5) = true := by rw [decide_eq_true_iff]; omega
          rw [e, g4]
        have h4 : ¬ ok = 3 := of_decide_eq_false g4
        conv => whnf
        refine branch_of (fun g5 => ?_) (fun g5 => ?_)
        · have h5 : ok = 4 := of_decide_eq_true g5
          conv => whnf
          have e : decide (ok = 3 ∨ ok = 4 ∨ ok = 5) = true := by rw [decide_eq_true_iff]; omega
          rw [e, g5]
        have h5 : ¬ ok = 4 := of_decide_eq_false g5
        conv => whnf
        have e : decide (ok = 3 ∨ ok = 4 ∨ ok = 5) = decide (ok = 5) := by rw [decide_eq_decide]; omega
        rw [e]
      rintro st rfl
      by_cases h6 : ok = 3 ∨ ok = 4 ∨ ok = 5
      · rw [if_pos h6] at he
        rw [decide_eq_true h6]
        conv => whnf
        refine branch_of (fun g3 => ?_) (fun g3 => ?_)
        · have g3 := of_decide_eq_true g3
          have : ov ≠ [] := by rintro rfl; exact absurd g3 (show ¬ (0 : Int) < 0 by omega)
          rw [decide_eq_false this, Bool.false_and, if_neg (by simp)] at he
          rw [he]
          conv => whnf
          exact fin0 rfl trivial
        have g3 := of_decide_eq_false g3
        have hov : ov = [] := List.eq_nil_of_length_eq_zero (by dsimp only at g3; omega)
        rw [decide_eq_true hov, Bool.true_and] at he
        conv => whnf
        refine ⟨_, (eqVal ox zeroV).2, ?_⟩
        conv => whnf
        by_cases hz : ox = zeroV
        · rw [decide_eq_true hz] at he ⊢
          rw [if_pos rfl, if_neg (by omega)] at he
          conv => whnf
          refine branch_of (fun g6 => ?_) (fun g6 => ?_)
          · have g6 := of_decide_eq_true g6
            rw [if_pos (by omega)] at he
            rw [he]
            conv => whnf
            exact fin0 rfl trivial
          · have g6 := of_decide_eq_false g6
            rw [if_neg (by omega)] at he
            conv => whnf
            refine ⟨l.length - (k + 1), by omega, k + 1, d - 1, rfl, by omega, by omega, he, ?_⟩
            rw [wr (by omega) (by omega), wr (by omega) (by omega)]
            have e1 : (d : Int) - 1 = (d - 1 : Nat) := by omega
            rw [e1]; rfl
        · rw [decide_eq_false hz] at he ⊢
          rw [if_neg (by simp)] at he
          rw [he]
          conv => whnf
          exact fin0 rfl trivial
      · rw [if_neg h6, if_neg (by simp)] at he
        rw [decide_eq_false h6, he]
        conv => whnf
        exact fin0 rfl trivial
    · have h3 := of_decide_eq_false h3
      rw [List.length_map] at h3
      have hd2 : l.drop k = [] := List.drop_eq_nil_iff.2 (by omega)
      rw [hd2, depGo] at he
      rw [he]
      conv => whnf
      exact fin0 (by simp; omega) trivial
end Go.PV
