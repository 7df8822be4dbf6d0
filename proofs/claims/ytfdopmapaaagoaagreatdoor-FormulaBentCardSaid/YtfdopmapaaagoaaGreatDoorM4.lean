/- Part of the proof. -/
import Derived.Test.YtfdopmapaaagoaaGreatDoorM3
import Derived.Lib.Join
set_option linter.unusedVariables false
set_option linter.unusedSimpArgs false
namespace Go.PV
open Go
/-! atoms: what is written is read; what is read is right -/
theorem tk_term {t : Trm} (h : termOk t = true) : Tk (termK t) := by
  unfold termOk at h
  unfold termK
  by_cases hv : t.v = []
  · rw [if_pos hv] at h ⊢
    rcases check_cases h with ⟨h1, h2, _, h4⟩ | ⟨h1, _, h3, h4⟩ | ⟨h1, _, h3, h4⟩ <;> rw [h4]
    · rw [if_pos h1]; exact tk_num (by rw [refNum_itoa h2]; rfl)
    · rw [if_neg (by omega), if_pos h1]; rw [symbol_word] at h3; exact tk_word (large := false) h3
    · rw [if_neg (by omega), if_neg (by omega)]; exact tk_quoted h3
  · rw [if_neg hv] at h ⊢
    rw [Bool.and_eq_true] at h
    exact tk_word (large := true) h.1
theorem value_term {t : Trm} (h : termOk t = true) : valueS (termK t) = some t := by
  unfold termOk at h
  obtain ⟨v, k, n, s⟩ := t
  unfold termK
  dsimp only at h ⊢
  by_cases hv : v = []
  · subst hv
    rw [if_pos rfl] at h ⊢
    rcases check_cases h with ⟨h1, h2, h3, h4⟩ | ⟨h1, h2, h3, h4⟩ | ⟨h1, h2, h3, h4⟩ <;> rw [h4] <;> dsimp only at h1 h2 h3 h4 ⊢
    · subst h1; subst h3; simp only [if_true]
      unfold valueS; rw [if_neg (by dsimp only; omega), if_pos rfl, number_itoa h2]; rfl
    · subst h1; subst h2
      unfold valueS; rw [if_neg (by dsimp only; omega), if_neg (by dsimp only; omega), parse_sym h3]; simp
    · subst h1; subst h2
      unfold valueS; rw [if_neg (by dsimp only; omega), if_neg (by dsimp only; omega), parse_quoted h3]; simp
  · rw [if_neg hv] at h ⊢
    rw [Bool.and_eq_true, decide_eq_true_eq] at h
    unfold valueS; rw [if_pos rfl, if_pos h.1, ← h.2]
theorem num_check {s : Bs} {v : Val} (h : numberS s = some v) : checkS v = true ∧ v.k = 1 := by
  rw [number_ref, Option.map_eq_some_iff] at h
  obtain ⟨n, h, rfl⟩ := h
  unfold refNumS at h
  split at h
  · cases h
  · rename_i h1
    have : inR n = true := by
      simp only [Option.some.injEq] at h
      simp only [inR, decide_eq_true_eq]
      have : ¬ 4611686018427387904 < digN (unS s) := fun h => h1 (.inr (.inr h))
      split at h <;> omega
    exact ⟨by simp [checkS, this], rfl⟩
theorem varS_ne {s : Bs} (h : varS s = true) : s ≠ [] := by
  intro e; subst e; simp [varS, refWordS] at h
theorem value_ok {x : KT} {t : Trm} (h : valueS x = some t) : termOk t = true := by
  unfold valueS at h
  split at h
  · split at h
    · rename_i h1
      cases h
      unfold termOk
      rw [if_neg (varS_ne h1)]
      simp [h1]
    · cases h
  · split at h
    · rw [Option.map_eq_some_iff] at h
      obtain ⟨v, h, rfl⟩ := h
      unfold termOk; rw [if_pos rfl]; exact (num_check h).1
    · split at h
      · rename_i v hv
        split at h
        · cases h
          unfold termOk; rw [if_pos rfl]; exact (parse_some hv).1
        · cases h
      · cases h
/-! what may stand behind -/
def stopC (c : UInt8) : Bool := !letterB c && decide (c.toNat ≠ 61 ∧ c.toNat ≠ 62)
def stopH : Bs → Bool
  | [] => true
  | c :: _ => stopC c
theorem okEnd_stop {t : KT} {r : Bs} (h : stopH r = true) : okEnd t r = true := by
  cases r with
  | nil => rfl
  | cons c r =>
    simp only [stopH, stopC, Bool.and_eq_true, Bool.not_eq_true', decide_eq_true_eq] at h
    have hd : digitB c = false := by have := h.1; simp [letterB] at this; exact this.1.2
    rw [okEnd]
    split
    · simp [h.1]
    · split
      · simp [hd]
      · split
        · rfl
        · simp [h.2, hd]
theorem okEnd_sign {x : UInt8} (hx : x ≠ 45) {c : UInt8} {r : Bs} (h : c.toNat ≠ 61 ∧ c.toNat ≠ 62) : okEnd (5, [x]) (c :: r) = true := by
  rw [okEnd, if_neg (by dsimp only; omega), if_neg (by dsimp only; omega), if_neg (by dsimp only; omega)]
  simp [h, hx]
theorem tk_head {t : KT} (h : Tk t) (h5 : t.1 ≠ 5) : ∃ c r, t.2 = c :: r ∧ c.toNat ≠ 61 ∧ c.toNat ≠ 62 := by
  obtain ⟨k, t⟩ := t
  dsimp only at h5 ⊢
  have h1 := tk_pos h
  unfold Tk at h
  dsimp only at h h1
  cases t with
  | nil => simp at h1
  | cons c r =>
    refine ⟨c, r, rfl, ?_⟩
    by_cases hc : c.toNat = 61 ∨ c.toNat = 62
    · refine absurd ?_ h5
      have e : nextS (c :: r) = (5, signS (c :: r), decide (0 < signS (c :: r))) := by
        rw [nextS, if_neg, if_neg, if_neg (by omega)]
        · simp [digitB, inB]; omega
        · simp [smallB, largeB, inB]; omega
      rw [e] at h
      exact (congrArg Prod.fst h).symm
    · omega
theorem termK_5 (t : Trm) : (termK t).1 ≠ 5 := by
  unfold termK; split
  · dsimp only; split
    · omega
    · split <;> omega
  · dsimp only; omega
theorem tk_1 {x : UInt8} (h : nextS [x] = (5, 1, true)) : Tk (5, [x]) := h
theorem okEnd_head {x : UInt8} (hx : x ≠ 45) {t : KT} (h : Tk t) (h5 : t.1 ≠ 5) (r : Bs) : okEnd (5, [x]) (t.2 ++ r) = true := by
  obtain ⟨c, u, e, hc⟩ := tk_head h h5
  rw [e]; exact okEnd_sign hx hc
theorem nameS_word {s : Bs} (h : nameS s = true) : refWordS false s = true := by unfold nameS at h; rw [Bool.and_eq_true] at h; exact h.1
theorem wov_tail (tail : Bs) (ht : stopH tail = true) : ∀ l : List Trm, l.all termOk = true → WovK tail (tailK l) ∧ stopH (weaveK (tailK l) ++ tail) = true
  | [], _ => ⟨⟨rfl, rfl, okEnd_stop ht, trivial⟩, rfl⟩
  | t :: r, h => by
    rw [List.all_cons, Bool.and_eq_true] at h
    obtain ⟨h1, h2⟩ := wov_tail tail ht r h.2
    refine ⟨⟨rfl, rfl, ?_, rfl, tk_term h.1, okEnd_stop h2, h1⟩, rfl⟩
    rfl
theorem wov_args (tail : Bs) (ht : stopH tail = true) (l : List Trm) (h : l.all termOk = true) : WovK tail (argsK l) ∧ (stopH (weaveK (argsK l) ++ tail) = true) := by
  cases l with
  | nil => exact ⟨trivial, ht⟩
  | cons t r =>
    rw [List.all_cons, Bool.and_eq_true] at h
    obtain ⟨h1, h2⟩ := wov_tail tail ht r h.2
    refine ⟨⟨rfl, rfl, ?_, rfl, tk_term h.1, okEnd_stop h2, h1⟩, rfl⟩
    show okEnd (5, [40]) ([] ++ ((termK t).2 ++ weaveK (tailK r)) ++ tail) = true
    rw [List.nil_append, List.append_assoc]
    exact okEnd_head (by decide) (tk_term h.1) (termK_5 t) _
theorem wov_atom {tail b : Bs} (ht : stopH tail = true) (hb : blk b = true) {a : Atm} (h : atomOk a = true) : WovK tail (atomK b a) := by
  unfold atomOk at h
  rw [Bool.and_eq_true, Bool.and_eq_true] at h
  obtain ⟨h1, h2⟩ := wov_args tail ht a.a h.2
  exact ⟨hb, tk_word (large := false) (nameS_word h.1.1), okEnd_stop h2, h1⟩
/-! reading -/
namespace Rd
def rest (r : Rd) : List KT := (r.l.drop r.i).map kt
def adv (r : Rd) (n : Nat) : Rd := { r with i := r.i + n }
theorem cur_rest (r : Rd) : r.cur = r.rest.head? := by
  unfold cur rest
  rw [List.head?_map, List.head?_drop]
theorem rest_cons {r : Rd} {x : KT} {m : List KT} (h : r.rest = x :: m) : r.cur = some x ∧ r.step.rest = m := by
  refine ⟨by rw [cur_rest, h]; rfl, ?_⟩
  have : r.step.rest = r.rest.tail := by
    unfold rest step
    rw [← List.map_tail, List.tail_drop]
  rw [this, h]; rfl
theorem see_rest {r : Rd} (ho : r.isOpen = true) {x : KT} {m : List KT} (h : r.rest = x :: m) : r.see x.1 x.2 = true := by
  unfold see; rw [ho, (rest_cons h).1]; simp
theorem see_no {r : Rd} {x : KT} (h : r.rest.head? ≠ some x) : r.see x.1 x.2 = false := by
  unfold see; rw [cur_rest]; simp [h]
theorem name_rest {r : Rd} (ho : r.isOpen = true) {s : Bs} {m : List KT} (h : r.rest = (1, s) :: m) (hs : nameS s = true) : r.name = (s, r.step) := by
  unfold name; rw [if_pos ho, (rest_cons h).1]; simp [hs]
theorem term_rest {r : Rd} (ho : r.isOpen = true) {t : Trm} {m : List KT} (h : r.rest = termK t :: m) (ht : termOk t = true) : r.term = (t, r.step) := by
  unfold term; rw [if_pos ho, (rest_cons h).1, Option.bind_some, value_term ht]
theorem want_rest {r : Rd} (ho : r.isOpen = true) {x : KT} {m : List KT} (h : r.rest = x :: m) : r.want x.1 x.2 = r.step := by
  unfold want; rw [if_pos (see_rest ho h)]
theorem args_rest : ∀ (l : List Trm) (f : Nat) (r : Rd) (m : List KT), r.isOpen = true → l.all termOk = true → r.rest = (tailK l).map (·.2) ++ m → l.length ≤ f → (args f r).1 = l ∧ (args f r).2.want 5 [41] = r.adv (tailK l).length
  | [], f, r, m, ho, _, hr, _ => by
    have hs : r.see 5 [44] = false := see_no (x := (5, [44])) (by rw [hr]; simp [tailK])
    have e : args f r = ([], r) := by cases f <;> simp [args, hs]
    rw [e]
    exact ⟨rfl, want_rest ho (x := (5, [41])) (m := m) (by rw [hr]; rfl)⟩
  | t :: l, f, r, m, ho, hk, hr, hf => by
    obtain ⟨f, rfl⟩ : ∃ f', f = f' + 1 := ⟨f - 1, by simp at hf; omega⟩
    rw [List.all_cons, Bool.and_eq_true] at hk
    have hr : r.rest = (5, [44]) :: termK t :: ((tailK l).map (·.2) ++ m) := hr
    have h1 := rest_cons hr
    have h2 := rest_cons h1.2
    have ht := term_rest (r := r.step) ho h1.2 hk.1
    obtain ⟨i1, i2⟩ := args_rest l f r.step.step m ho hk.2 h2.2 (by simp at hf; omega)
    rw [args, if_pos (see_rest ho hr), ht]
    dsimp only
    rw [i1, i2]
    refine ⟨rfl, ?_⟩
    simp only [adv, step, tailK, List.length_cons]
    congr 1; omega
theorem brack_rest {r : Rd} {t : Trm} {l : List Trm} {m : List KT} (ho : r.isOpen = true) (hk : (t :: l).all termOk = true) (hr : r.rest = (argsK (t :: l)).map (·.2) ++ m) : r.brack = (t :: l, r.adv (argsK (t :: l)).length) := by
  rw [List.all_cons, Bool.and_eq_true] at hk
  have hr : r.rest = (5, [40]) :: termK t :: ((tailK l).map (·.2) ++ m) := hr
  have h1 := rest_cons hr
  have h2 := rest_cons h1.2
  have ht := term_rest (r := r.step) ho h1.2 hk.1
  have hlen : ∀ l : List Trm, l.length ≤ (tailK l).length := fun l => by
    induction l with
    | nil => simp
    | cons u l ih => simp only [tailK, List.length_cons]; omega
  have hll : l.length ≤ r.l.length := by
    have e := congrArg List.length hr
    have := hlen l
    simp only [rest, List.length_map, List.length_drop, List.length_cons, List.length_append] at e
    omega
  obtain ⟨i1, i2⟩ := args_rest l r.l.length r.step.step m ho hk.2 h2.2 hll
  unfold brack
  rw [ht]
  dsimp only
  rw [i1, i2]
  simp only [adv, step, argsK, List.length_cons]
  congr 2; omega
/-- an atom's signs are read as it -/
theorem atom_rest {r : Rd} {a : Atm} {b : Bs} {m : List KT} (ho : r.isOpen = true) (hk : atomOk a = true) (hr : r.rest = (atomK b a).map (·.2) ++ m) (hm : a.a = [] → m.head? ≠ some (5, [40])) : r.atom = (a, r.adv (atomK b a).length) := by
  unfold atomOk at hk
  rw [Bool.and_eq_true, Bool.and_eq_true, decide_eq_true_eq] at hk
  obtain ⟨⟨h1, h2⟩, h3⟩ := hk
  have hr : r.rest = (1, a.n) :: ((argsK a.a).map (·.2) ++ m) := hr
  have hc := rest_cons hr
  have hn := name_rest ho hr h1
  obtain ⟨n, l⟩ := a
  dsimp only at *
  unfold atom
  rw [hn]
  dsimp only
  cases l with
  | nil =>
    have hs : r.step.see 5 [40] = false := see_no (x := (5, [40])) (by rw [hc.2]; exact hm rfl)
    rw [hs, if_neg (by simp)]
    rfl
  | cons t l =>
    have hs : r.step.see 5 [40] = true := see_rest (r := r.step) (x := (5, [40])) (m := termK t :: ((tailK l).map (·.2) ++ m)) ho hc.2
    rw [if_pos hs, brack_rest (r := r.step) ho h3 hc.2]
    dsimp only
    rw [List.take_of_length_le h2, if_neg (by omega)]
    simp only [adv, step, atomK, List.length_cons]
    congr 2; omega
/-! what is read is right -/
theorem term_open {r : Rd} (h : r.term.2.isOpen = true) : r.isOpen = true ∧ termOk r.term.1 = true ∧ r.term.2 = r.step ∧ r.i < r.l.length := by
  unfold term at *
  split at h
  · rename_i ho
    rw [if_pos ho]
    split at h
    · rename_i t ht
      rw [Option.bind_eq_some_iff] at ht
      obtain ⟨x, h1, h2⟩ := ht
      exact ⟨ho, value_ok h2, rfl, cur_lt h1⟩
    · simp [fail, isOpen] at h
  · rename_i ho; exact absurd h ho
theorem name_open {r : Rd} (h : r.name.2.isOpen = true) : r.isOpen = true ∧ nameS r.name.1 = true ∧ r.name.2 = r.step ∧ r.i < r.l.length := by
  unfold name at *
  split at h
  · rename_i ho
    rw [if_pos ho]
    split at h
    · rename_i x hx
      split at h
      · rename_i hc
        rw [if_pos hc]
        exact ⟨ho, hc.2, rfl, cur_lt hx⟩
      · simp [fail, isOpen] at h
    · simp [fail, isOpen] at h
  · rename_i ho; exact absurd h ho
theorem want_open {r : Rd} {k : Int} {t : Bs} (h : (r.want k t).isOpen = true) : r.isOpen = true ∧ r.want k t = r.step ∧ r.i < r.l.length := by
  unfold want at *
  split at h
  · rename_i hs
    rw [if_pos hs]
    exact ⟨(see_open hs).1, rfl, cur_lt (see_open hs).2⟩
  · split at h
    · simp [fail, isOpen] at h
    · rename_i ho; exact absurd h ho
theorem args_open : ∀ (f : Nat) (r : Rd), (args f r).2.isOpen = true → r.isOpen = true ∧ (args f r).1.all termOk = true ∧ (args f r).2.l = r.l ∧ r.i ≤ (args f r).2.i ∧ (args f r).2.wrong = r.wrong
  | 0, r, h => ⟨h, rfl, rfl, Nat.le_refl _, rfl⟩
  | f + 1, r, h => by
    rw [args] at *
    split at h
    · rename_i hs
      rw [if_pos hs]
      dsimp only at h ⊢
      obtain ⟨h1, h2, h3, h4, h5⟩ := args_open f _ h
      obtain ⟨k1, k2, k3, k4⟩ := term_open h1
      rw [List.all_cons, k2, h2, h3, h5, k3]
      rw [k3] at h4
      have h4' : r.i + 1 + 1 ≤ (args f r.step.step).2.i := h4
      exact ⟨(see_open hs).1, rfl, rfl, by omega, rfl⟩
    · rename_i hs
      rw [if_neg hs]
      exact ⟨h, rfl, rfl, Nat.le_refl _, rfl⟩
theorem brack_open {r : Rd} (h : r.brack.2.isOpen = true) : r.brack.1.all termOk = true ∧ r.brack.2.l = r.l ∧ r.i < r.brack.2.i ∧ r.brack.2.i ≤ r.l.length ∧ r.brack.2.wrong = r.wrong := by
  unfold brack at *
  dsimp only at h ⊢
  obtain ⟨h1, h2, h3⟩ := want_open h
  obtain ⟨k1, k2, k3, k4, k5⟩ := args_open _ _ h1
  obtain ⟨j1, j2, j3, j4⟩ := term_open k1
  rw [List.all_cons, j2, k2, h2]
  rw [k3, j3] at h3
  rw [j3] at k3 k4 k5
  simp only [step] at *
  rw [j3]
  exact ⟨rfl, k3, by omega, by omega, k5⟩
theorem atom_open {r : Rd} (h : r.atom.2.isOpen = true) : (r.atom.2.wrong = r.wrong → r.wrong = false → atomOk r.atom.1 = true) ∧ r.atom.2.l = r.l ∧ r.i < r.atom.2.i ∧ r.atom.2.i ≤ r.l.length := by
  unfold atom at *
  dsimp only at h ⊢
  split at h
  · rename_i hs
    rw [if_pos hs]
    dsimp only at h ⊢
    have hb : r.name.2.brack.2.isOpen = true := by
      split at h
      · exact h
      · exact h
    obtain ⟨k1, k2, k3, k4, k5⟩ := brack_open hb
    obtain ⟨j1, j2, j3, j4⟩ := name_open (see_open hs).1
    rw [j3] at k1 k2 k3 k4 k5 ⊢
    have k3 : r.i + 1 < r.step.brack.2.i := k3
    have k4 : r.step.brack.2.i ≤ r.l.length := k4
    refine ⟨fun hw h0 => ?_, ?_, ?_, ?_⟩
    · have hl : ¬ 5 < r.step.brack.1.length := fun hl => by rw [if_pos hl] at hw; dsimp only at hw; rw [← hw] at h0; cases h0
      unfold atomOk
      dsimp only
      rw [j2, List.take_of_length_le (by omega), k1]
      simp; omega
    · split <;> exact k2
    · split <;> exact (by first | exact (by omega : _) | (show r.i < r.step.brack.2.i; omega))
    · split <;> exact k4
  · rename_i hs
    rw [if_neg hs]
    dsimp only at h ⊢
    obtain ⟨j1, j2, j3, j4⟩ := name_open h
    rw [j3]
    refine ⟨fun _ _ => ?_, rfl, by simp [step], by simp [step]; omega⟩
    unfold atomOk; simp [j2]
end Rd
theorem endE_0 {r : Rd} (h : r.endE = 0) : r.isOpen = true ∧ r.wrong = false ∧ ∀ a, r.endI a = r.i := by
  unfold Rd.endE at h
  split at h
  · omega
  · rename_i h1
    simp only [Bool.or_eq_true, not_or, Bool.not_eq_true] at h1
    obtain ⟨⟨h1, h2⟩, h3⟩ := h1
    exact ⟨by simp [Rd.isOpen, h1, h2], h3, fun a => by simp [Rd.endI, h1, h2, h3]⟩
/-- what is read of signs is right -/
theorem readA_ok {l : List Tok} {i : Nat} (h : (readA l i).2.2 = 0) : atomOk (readA l i).1 = true ∧ i < (readA l i).2.1 ∧ (readA l i).2.1 ≤ l.length := by
  unfold readA at *
  dsimp only at h ⊢
  obtain ⟨h1, h2, h3⟩ := endE_0 h
  obtain ⟨k1, k2, k3, k4⟩ := Rd.atom_open h1
  rw [if_pos h, h3]
  exact ⟨k1 h2 rfl, k3, k4⟩
/-- an atom's signs, whatever stands behind -/
theorem readA_back {l : List Tok} {i : Nat} {a : Atm} {b : Bs} {m : List KT} (hk : atomOk a = true) (hr : (l.drop i).map kt = (atomK b a).map (·.2) ++ m) (hm : a.a = [] → m.head? ≠ some (5, [40])) : readA l i = (a, i + (atomK b a).length, 0) := by
  have e := Rd.atom_rest (r := rd0 l i) (a := a) (b := b) (m := m) rfl hk hr hm
  unfold readA
  rw [e]; rfl
namespace Rd
theorem term_l (r : Rd) : r.term.2.l = r.l ∧ r.i ≤ r.term.2.i ∧ r.term.2.i ≤ r.i + 1 := by
  unfold term
  split
  · split
    · exact ⟨rfl, Nat.le_succ _, Nat.le_refl _⟩
    · exact ⟨rfl, Nat.le_refl _, Nat.le_succ _⟩
  · exact ⟨rfl, Nat.le_refl _, Nat.le_succ _⟩
theorem name_l (r : Rd) : r.name.2.l = r.l ∧ r.i ≤ r.name.2.i := by
  unfold name
  split
  · split
    · split
      · exact ⟨rfl, Nat.le_succ _⟩
      · exact ⟨rfl, Nat.le_refl _⟩
    · exact ⟨rfl, Nat.le_refl _⟩
  · exact ⟨rfl, Nat.le_refl _⟩
theorem num_l (r : Rd) : r.num.2.l = r.l ∧ r.i ≤ r.num.2.i := by
  unfold num
  split
  · split
    · split
      · exact ⟨rfl, Nat.le_succ _⟩
      · exact ⟨rfl, Nat.le_refl _⟩
    · exact ⟨rfl, Nat.le_refl _⟩
  · exact ⟨rfl, Nat.le_refl _⟩
theorem want_l (r : Rd) (k : Int) (t : Bs) : (r.want k t).l = r.l ∧ r.i ≤ (r.want k t).i := by
  unfold want
  split
  · exact ⟨rfl, Nat.le_succ _⟩
  · split
    · exact ⟨rfl, Nat.le_refl _⟩
    · exact ⟨rfl, Nat.le_refl _⟩
theorem word_l (r : Rd) (k : Int) (t : Bs) : (r.word k t).l = r.l ∧ r.i ≤ (r.word k t).i := by
  unfold word
  split
  · exact ⟨rfl, Nat.le_succ _⟩
  · exact ⟨rfl, Nat.le_refl _⟩
theorem atom_no {r : Rd} (h : r.name.2.see 5 [40] = false) : r.atom = (⟨r.name.1, []⟩, r.name.2) := by
  unfold atom; dsimp only; rw [h]; rfl
theorem atom_yes {r : Rd} (h : r.name.2.see 5 [40] = true) : r.atom = (⟨r.name.1, (r.name.2.step.term.1 :: (args r.name.2.l.length r.name.2.step.term.2).1).take 5⟩,
    if 5 < (args r.name.2.l.length r.name.2.step.term.2).1.length + 1 then { (args r.name.2.l.length r.name.2.step.term.2).2.want 5 [41] with wrong := true } else (args r.name.2.l.length r.name.2.step.term.2).2.want 5 [41]) := by
  unfold atom; dsimp only; rw [if_pos h]; rfl
theorem args_l : ∀ (f : Nat) (r : Rd), (args f r).2.l = r.l ∧ r.i ≤ (args f r).2.i
  | 0, r => ⟨rfl, Nat.le_refl _⟩
  | f + 1, r => by
    rw [args]
    split
    · have h1 := args_l f r.step.term.2
      have h2 := term_l r.step
      have h3 : r.i + 1 ≤ r.step.term.2.i := h2.2.1
      exact ⟨h1.1.trans h2.1, by have := h1.2; dsimp only; omega⟩
    · exact ⟨rfl, Nat.le_refl _⟩
theorem atom_l (r : Rd) : r.atom.2.l = r.l ∧ r.i ≤ r.atom.2.i := by
  have h1 := name_l r
  have hb : r.name.2.brack.2.l = r.l ∧ r.i ≤ r.name.2.brack.2.i := by
    unfold brack
    dsimp only
    have h2 := term_l r.name.2.step
    have h3 := args_l r.name.2.l.length r.name.2.step.term.2
    have h4 := want_l (args r.name.2.l.length r.name.2.step.term.2).2 5 [41]
    have h5 : r.name.2.i + 1 ≤ r.name.2.step.term.2.i := h2.2.1
    exact ⟨h4.1.trans (h3.1.trans (h2.1.trans h1.1)), by omega⟩
  unfold atom
  dsimp only
  split
  · dsimp only; split <;> exact hb
  · exact h1
end Rd
/-! the length of a text -/
theorem nDigits_le : ∀ k u : Nat, u < 10 ^ k → 1 ≤ k → Lib.nDigits u ≤ k
  | 0, u, _, h => by omega
  | k + 1, u, h, _ => by
    rw [Lib.nDigits]
    split
    · omega
    · rename_i hu
      cases k with
      | zero => omega
      | succ k =>
        have := nDigits_le (k + 1) (u / 10) (by rw [Nat.pow_succ] at h; omega) (by omega)
        omega
theorem itoa_len {n : Int} (h : inR n = true) : (Lib.itoa n).length ≤ 20 := by
  simp only [inR, decide_eq_true_eq] at h
  unfold Lib.itoa
  split
  · rw [List.length_cons, Lib.decDigits_length]
    have := nDigits_le 19 n.natAbs (by omega) (by omega)
    omega
  · rw [Lib.decDigits_length]
    have := nDigits_le 19 n.toNat (by omega) (by omega)
    omega
theorem textV_len {v : Val} (h : checkS v = true) : (textV v).length ≤ 122 := by
  rcases check_cases h with ⟨_, h2, _, h4⟩ | ⟨_, _, h3, h4⟩ | ⟨_, _, h3, h4⟩ <;> rw [h4]
  · have := itoa_len h2; omega
  · simp [symbolS] at h3; omega
  · simp [plainS] at h3
    have := flatMap_len v.s
    simp only [quotedS, List.length_append, List.length_cons, List.length_nil]; omega
theorem termT_len {t : Trm} (h : termOk t = true) : (termT t).length ≤ 122 := by
  unfold termOk at h
  unfold termT
  split
  · rename_i hv; rw [if_pos hv] at h; exact textV_len h
  · rename_i hv
    rw [if_neg hv, Bool.and_eq_true] at h
    have := h.1
    simp [varS, refWordS] at this; omega
theorem weave_tail_len : ∀ l : List Trm, l.all termOk = true → (weaveK (tailK l)).length ≤ 124 * l.length + 1
  | [], _ => by simp [tailK, weaveK]
  | t :: r, h => by
    rw [List.all_cons, Bool.and_eq_true] at h
    have := weave_tail_len r h.2
    have := termT_len h.1
    simp only [tailK, weaveK, termK_T, List.length_append, List.length_cons, List.length_nil]; omega
theorem atomT_len {a : Atm} (h : atomOk a = true) : (atomT a).length ≤ 700 := by
  unfold atomOk at h
  rw [Bool.and_eq_true, Bool.and_eq_true, decide_eq_true_eq] at h
  obtain ⟨⟨h1, h2⟩, h3⟩ := h
  have hn := nameS_word h1
  simp [refWordS] at hn
  unfold atomT atomK argsK
  rw [weaveK]
  split
  · simp [weaveK]; omega
  · rename_i t r e
    rw [e, List.all_cons, Bool.and_eq_true] at h3
    rw [e, List.length_cons] at h2
    have := weave_tail_len r h3.2
    have := termT_len h3.1
    simp only [weaveK, termK_T, List.length_append, List.length_cons, List.length_nil]; omega
end Go.PV
namespace Go.PV
open Go Go.Proofs
set_option maxRecDepth 100000
theorem sletter_good (c : UInt8) : Good Tryz.prog 251 [.int .u8 c.toNat] [] [.bool (letterB c)] [] := by
  refine good_of hP Tryz.func251 (by kernel_rfl) (lv := [0, 2]) (js := []) ⟨rfl, rfl, rfl, rfl, rfl, rfl, _, rfl, ?_⟩
  repeat' (conv => whnf); refine branch_of (fun _ => ?_) (fun _ => ?_)
  all_goals (conv => whnf); exact fin0 (by simp_all [letterB, smallB, largeB, digitB, inB] <;> first | omega | (rw [Bool.eq_iff_iff]; simp; omega)) trivial
theorem svar_good (s : Bs) (hs : s.length ≤ 1000000) : Good Tryz.prog 234 [.str s] [] [.bool (varS s)] [] := by
  refine good_of hP Tryz.func234 (by kernel_rfl) (lv := [0, 2, 3, 21, 23, 24, 25, 31]) (js := [21]) ⟨rfl, rfl, rfl, rfl, rfl, rfl, _, rfl, ?_⟩
  conv => whnf
  refine seq_of hP [0, 2, 3, 21, 23, 24, 25, 31] [21] [0] [] [] (fun st => varS s = s.all letterB ∧ st = ⟨[(0, .str s)], []⟩) ?_ ?_
  · conv => whnf
    refine branch_of (fun h => ?_) (fun h => ?_)
    · have h := of_decide_eq_true h
      conv => whnf
      exact fin0 (by simp [varS, refWordS]; omega) trivial
    have h := of_decide_eq_false h
    conv => whnf
    refine branch_of (fun h2 => ?_) (fun h2 => ?_)
    · have h2 := of_decide_eq_true h2
      conv => whnf
      exact fin0 (by simp [varS, refWordS]; omega) trivial
    have h2 := of_decide_eq_false h2
    have h0 : 0 < s.length := by omega
    obtain ⟨c, r, hcr, hc⟩ := head_at h0
    have hw : varS s = (largeB c && s.all letterB) := by
      have e1 : decide (1 ≤ s.length) = true := by simp; omega
      have e2 : decide (s.length ≤ 24) = true := by simp; omega
      have : headB largeB s = largeB c := by rw [hcr]; rfl
      simp [varS, refWordS, e1, e2, this]
    rw [hw]
    conv => whnf
    refine ⟨c, by rw [← hc]; exact idx h0 rfl, ?_⟩
    conv => whnf
    refine branch_of (fun h3 => ?_) (fun h3 => ?_)
    · have h3 := of_decide_eq_true h3
      conv => whnf
      exact fin0 (by simp [largeB, inB]; omega) trivial
    have h3 := of_decide_eq_false h3
    conv => whnf
    refine ⟨c, by rw [← hc]; exact idx h0 rfl, ?_⟩
    conv => whnf
    refine branch_of (fun h4 => ?_) (fun h4 => ?_)
    · have h4 := of_decide_eq_true h4
      conv => whnf
      exact fin0 (by simp [largeB, inB]; omega) trivial
    have h4 := of_decide_eq_false h4
    conv => whnf
    have hl : largeB c = true := by simp [largeB, inB]; omega
    exact ⟨by rw [hl]; rfl, rfl⟩
  rintro st ⟨hw, rfl⟩
  rw [hw]
  conv => whnf
  refine loop_of hP [0, 2, 3, 21, 23, 24, 25, 31] [21] [0, 23, 24] [] [] (fun n st => ∃ k : Nat, n = s.length - k ∧ k ≤ s.length ∧ s.all letterB = (s.drop k).all letterB ∧ st = ⟨[(0, .str s), (23, .int .i64 s.length), (24, .int .i64 k)], []⟩) s.length ?_ ?_
  · conv => whnf
    exact ⟨0, rfl, Nat.zero_le _, rfl, rfl⟩
  · rintro n st ⟨k, rfl, hk, he, rfl⟩
    conv => whnf
    refine branch_of (fun h => ?_) (fun h => ?_)
    · have h := of_decide_eq_true h
      have hk' : k < s.length := by omega
      rw [all_drop hk'] at he
      conv => whnf
      refine ⟨s[k], idx hk' rfl, ?_⟩
      conv => whnf
      refine call0 (sletter_good _) ?_
      cases hl : letterB s[k] with
      | false =>
        rw [hl] at he
        conv => whnf
        exact fin0 (by rw [he]; rfl) trivial
      | true =>
        rw [hl, Bool.true_and] at he
        conv => whnf
        refine ⟨s.length - (k + 1), by omega, k + 1, rfl, by omega, he, ?_⟩
        rw [wr (by omega) (by omega)]; rfl
    · have h := of_decide_eq_false h
      have : s.drop k = [] := List.drop_eq_nil_iff.2 (by omega)
      rw [this] at he
      conv => whnf
      exact fin0 (by rw [he]; rfl) trivial
abbrev strV (l : List Bs) : List (List V) := l.map fun x => [.str x]
theorem index_good (l : List Bs) (s : Bs) (hl : l.length ≤ 1000000) : Good Tryz.prog 229 [.sl 1 (strV l), .str s] [] [.int .i64 (match l.findIdx? (fun x => decide (s = x)) with | some i => (i : Int) | none => -1)] [] := by
  refine good_of hP Tryz.func229 (by kernel_rfl) (lv := [0, 1, 4, 5, 7, 8, 9, 16]) (js := []) ⟨rfl, rfl, rfl, rfl, rfl, rfl, _, rfl, ?_⟩
  conv => whnf
  refine loop_of hP [0, 1, 4, 5, 7, 8, 9, 16] [] [0, 1, 7, 8] [] [] (fun n st => ∃ k : Nat, n = l.length - k ∧ k ≤ l.length ∧ (∀ j (h : j < l.length), j < k → s ≠ l[j]) ∧ st = ⟨[(0, .sl 1 (strV l)), (1, .str s), (7, .int .i64 l.length), (8, .int .i64 k)], []⟩) l.length ?_ ?_
  · conv => whnf
    exact ⟨0, rfl, Nat.zero_le _, fun j _ h => by omega, by rw [← List.length_map (f := fun x => [V.str x])]; rfl⟩
  · rintro n st ⟨k, rfl, hk, hn, rfl⟩
    conv => whnf
    refine branch_of (fun h => ?_) (fun h => ?_)
    · have h := of_decide_eq_true h
      have hk' : k < l.length := by omega
      conv => whnf
      refine ⟨[.str l[k]], idxM hk' rfl, ?_⟩
      conv => whnf
      refine branch_of (fun h2 => ?_) (fun h2 => ?_)
      · have h2 := of_decide_eq_true h2
        conv => whnf
        refine fin0 ?_ trivial
        have : l.findIdx? (fun x => decide (s = x)) = some k := by
          rw [List.findIdx?_eq_some_iff_getElem]
          exact ⟨hk', by simp [h2], fun j hj => by simpa using hn j (by omega) hj⟩
        rw [this]
      · have h2 := of_decide_eq_false h2
        conv => whnf
        refine ⟨l.length - (k + 1), by omega, k + 1, rfl, by omega, fun j hj hjk => ?_, ?_⟩
        · by_cases e : j = k
          · subst e; exact h2
          · exact hn j hj (by omega)
        · rw [wr (by omega) (by omega)]; rfl
    · have h := of_decide_eq_false h
      conv => whnf
      refine fin0 ?_ trivial
      have : l.findIdx? (fun x => decide (s = x)) = none := by
        rw [List.findIdx?_eq_none_iff]
        intro x hx
        obtain ⟨j, hj, rfl⟩ := List.getElem_of_mem hx
        simpa using hn j hj (by omega)
      rw [this]
theorem contains_good (l : List Bs) (s : Bs) (hl : l.length ≤ 1000000) : Good Tryz.prog 193 [.sl 1 (strV l), .str s] [] [.bool (decide (s ∈ l))] [] := by
  refine good_of hP Tryz.func193 (by kernel_rfl) (lv := [0, 1, 4]) (js := []) ⟨rfl, rfl, rfl, rfl, rfl, rfl, _, rfl, ?_⟩
  conv => whnf
  refine call0 (index_good l s hl) ?_
  conv => whnf
  refine fin0 ?_ trivial
  congr 2
  rw [decide_eq_decide]
  split
  · rename_i i hi
    rw [List.findIdx?_eq_some_iff_getElem] at hi
    obtain ⟨h1, h2, _⟩ := hi
    have : s = l[i] := by simpa using h2
    refine ⟨fun _ => this ▸ List.getElem_mem h1, fun _ => by omega⟩
  · rename_i hi
    rw [List.findIdx?_eq_none_iff] at hi
    refine ⟨fun h => by omega, fun h => ?_⟩
    have := hi s h; simp at this
theorem fword_good (s : Bs) : Good Tryz.prog 186 [.str s] [] [.bool (decide (s ∈ wordsL))] [] := by
  refine good_of hP Tryz.func186 (by kernel_rfl) (lv := [0, 2]) (js := []) ⟨rfl, rfl, rfl, rfl, rfl, rfl, _, rfl, ?_⟩
  conv => whnf
  refine call0 (contains_good wordsL s (by decide)) ?_
  conv => whnf
  exact fin0 rfl trivial
theorem fname_good (s : Bs) (hs : s.length ≤ 1000000) : Good Tryz.prog 120 [.str s] [] [.bool (nameS s)] [] := by
  refine good_of hP Tryz.func120 (by kernel_rfl) (lv := [0, 2]) (js := []) ⟨rfl, rfl, rfl, rfl, rfl, rfl, _, rfl, ?_⟩
  have e : nameS s = (symbolS s && !decide (s ∈ wordsL)) := by rw [symbol_word]; rfl
  have hc : checkS ⟨2, 0, s⟩ = symbolS s := by simp [checkS]
  rw [e]
  conv => whnf
  refine call0 (check_good ⟨2, 0, s⟩ (by dsimp only; omega)) ?_
  rw [hc]
  cases symbolS s with
  | false =>
    conv => whnf
    exact fin0 rfl trivial
  | true =>
    conv => whnf
    refine call0 (fword_good s) ?_
    conv => whnf
    exact fin0 rfl trivial
theorem zeroV_c : zeroV.c = [.int .i64 0, .int .i64 0, .str []] := rfl
theorem mterm_good (t : Trm) (h1 : t.v.length ≤ 1000000) (h2 : t.x.s.length ≤ 1000000) : Good Tryz.prog 207 [.agg t.c] [] [.bool (termOk t)] [] := by
  refine good_of hP Tryz.func207 (by kernel_rfl) (lv := [0, 1, 2, 5]) (js := []) ⟨rfl, rfl, rfl, rfl, rfl, rfl, _, rfl, ?_⟩
  conv => whnf
  refine branch_of (fun h => ?_) (fun h => ?_)
  · have h : t.v = [] := by simpa using h
    have e : termOk t = checkS t.x := by unfold termOk; rw [if_pos h]
    rw [e]
    conv => whnf
    refine call0 (check_good t.x (by omega)) ?_
    cases checkS t.x with
    | false =>
      conv => whnf
      exact fin0 rfl trivial
    | true =>
      conv => whnf
      exact fin0 rfl trivial
  · have h : t.v ≠ [] := by simpa using h
    have e : termOk t = (varS t.v && decide (t.x = zeroV)) := by unfold termOk; rw [if_neg h]
    rw [e]
    conv => whnf
    refine call0 (svar_good t.v (by omega)) ?_
    cases varS t.v with
    | false =>
      conv => whnf
      exact fin0 rfl trivial
    | true =>
      conv => whnf
      refine ⟨_, (eqVal t.x zeroV).1, ?_⟩
      conv => whnf
      exact fin0 (by simp) trivial
theorem mclos_good (t : Trm) (h1 : t.v.length ≤ 1000000) (h2 : t.x.s.length ≤ 1000000) : Good Tryz.prog 206 [.agg t.c] [] [.bool (!termOk t)] [] := by
  refine good_of hP Tryz.func206 (by kernel_rfl) (lv := [0, 1, 2]) (js := []) ⟨rfl, rfl, rfl, rfl, rfl, rfl, _, rfl, ?_⟩
  conv => whnf
  refine call0 (mterm_good t h1 h2) ?_
  conv => whnf
  exact fin0 rfl trivial
theorem indexF_good (l : List Trm) (hl : l.length ≤ 1000000) (g : FuncId) (p : Trm → Bool) (hg : ∀ t ∈ l, Good Tryz.prog g [.agg t.c] [] [.bool (p t)] []) : Good Tryz.prog 233 [.sl 4 (trmV l), .fn g []] [] [.int .i64 (match l.findIdx? p with | some i => (i : Int) | none => -1)] [] := by
  refine good_of hP Tryz.func233 (by kernel_rfl) (lv := [0, 1, 4, 5, 7, 8, 9, 16]) (js := []) ⟨rfl, rfl, rfl, rfl, rfl, rfl, _, rfl, ?_⟩
  conv => whnf
  refine loop_of hP [0, 1, 4, 5, 7, 8, 9, 16] [] [0, 1, 7, 8] [] [] (fun n st => ∃ k : Nat, n = l.length - k ∧ k ≤ l.length ∧ (∀ j (h : j < l.length), j < k → p l[j] = false) ∧ st = ⟨[(0, .sl 4 (trmV l)), (1, .fn g []), (7, .int .i64 l.length), (8, .int .i64 k)], []⟩) l.length ?_ ?_
  · conv => whnf
    exact ⟨0, rfl, Nat.zero_le _, fun j _ h => by omega, by rw [← List.length_map (f := Trm.c)]; rfl⟩
  · rintro n st ⟨k, rfl, hk, hn, rfl⟩
    conv => whnf
    refine branch_of (fun h => ?_) (fun h => ?_)
    · have h := of_decide_eq_true h
      have hk' : k < l.length := by omega
      conv => whnf
      refine ⟨Trm.c l[k], idxM hk' rfl, ?_⟩
      conv => whnf
      refine call0 (hg _ (List.getElem_mem hk')) ?_
      cases hp : p l[k] with
      | true =>
        conv => whnf
        refine fin0 ?_ trivial
        have : l.findIdx? p = some k := by
          rw [List.findIdx?_eq_some_iff_getElem]
          exact ⟨hk', hp, fun j hj => by simpa using hn j (by omega) hj⟩
        rw [this]
      | false =>
        conv => whnf
        refine ⟨l.length - (k + 1), by omega, k + 1, rfl, by omega, fun j hj hjk => ?_, ?_⟩
        · by_cases e : j = k
          · subst e; exact hp
          · exact hn j hj (by omega)
        · rw [wr (by omega) (by omega)]; rfl
    · have h := of_decide_eq_false h
      conv => whnf
      refine fin0 ?_ trivial
      have : l.findIdx? p = none := by
        rw [List.findIdx?_eq_none_iff]
        intro x hx
        obtain ⟨j, hj, rfl⟩ := List.getElem_of_mem hx
        exact hn j hj (by omega)
      rw [this]
theorem any_idx {α : Type} (l : List α) (p : α → Bool) : decide (0 ≤ (match l.findIdx? p with | some i => (i : Int) | none => -1)) = l.any p := by
  rw [Bool.eq_iff_iff, decide_eq_true_eq]
  split
  · rename_i i hi
    rw [List.findIdx?_eq_some_iff_getElem] at hi
    obtain ⟨h1, h2, _⟩ := hi
    exact ⟨fun _ => List.any_eq_true.2 ⟨_, List.getElem_mem h1, h2⟩, fun _ => by omega⟩
  · rename_i hi
    rw [List.findIdx?_eq_none_iff] at hi
    refine ⟨fun h => by omega, fun h => ?_⟩
    obtain ⟨x, h1, h2⟩ := List.any_eq_true.1 h
    rw [hi x h1] at h2; cases h2
theorem containsF_good (l : List Trm) (hl : l.length ≤ 1000000) (g : FuncId) (p : Trm → Bool) (hg : ∀ t ∈ l, Good Tryz.prog g [.agg t.c] [] [.bool (p t)] []) : Good Tryz.prog 205 [.sl 4 (trmV l), .fn g []] [] [.bool (l.any p)] [] := by
  refine good_of hP Tryz.func205 (by kernel_rfl) (lv := [0, 1, 4]) (js := []) ⟨rfl, rfl, rfl, rfl, rfl, rfl, _, rfl, ?_⟩
  conv => whnf
  refine call0 (indexF_good l hl g p hg) ?_
  conv => whnf
  refine fin0 ?_ trivial
  rw [any_idx]
/-- lengths that are played -/
def trmB (t : Trm) : Prop := t.v.length ≤ 1000000 ∧ t.x.s.length ≤ 1000000
def atmB (a : Atm) : Prop := a.n.length ≤ 1000000 ∧ a.a.length ≤ 1000000 ∧ ∀ t ∈ a.a, trmB t
theorem mcheck_good (a : Atm) (h : atmB a) : Good Tryz.prog 142 [.agg a.c] [] [.int .i64 (if atomOk a then 0 else 1)] [] := by
  refine good_of hP Tryz.func142 (by kernel_rfl) (lv := [0, 1, 2, 17]) (js := []) ⟨rfl, rfl, rfl, rfl, rfl, rfl, _, rfl, ?_⟩
  conv => whnf
  refine call0 (fname_good a.n h.1) ?_
  cases hn : nameS a.n with
  | false =>
    conv => whnf
    exact fin0 (by simp [atomOk, hn]) trivial
  | true =>
    conv => whnf
    refine branch_of (fun h1 => ?_) (fun h1 => ?_)
    · have h1 := of_decide_eq_true h1
      rw [List.length_map] at h1
      conv => whnf
      exact fin0 (by simp [atomOk]; omega) trivial
    · have h1 := of_decide_eq_false h1
      rw [List.length_map] at h1
      conv => whnf
      refine call0 (containsF_good a.a h.2.1 _ (fun t => !termOk t) (fun t ht => mclos_good t (h.2.2 t ht).1 (h.2.2 t ht).2)) ?_
      have e : atomOk a = !(a.a.any fun t => !termOk t) := by
        have h1 : decide (a.a.length ≤ 5) = true := by simp; omega
        rw [atomOk, hn, h1, List.not_any_eq_all_not]; simp
      rw [e]
      cases a.a.any fun t => !termOk t with
      | true =>
        conv => whnf
        exact fin0 rfl trivial
      | false =>
        conv => whnf
        exact fin0 rfl trivial
end Go.PV
namespace Go.PV
open Go Go.Proofs
set_option maxRecDepth 100000
theorem open_good (r : Rd) : Good Tryz.prog 149 [.ptr 0 0 0] [r.ob] [.bool r.isOpen] [r.ob] := by
  obtain ⟨l, i, b, o, w⟩ := r
  refine good_of hP Tryz.func149 (by kernel_rfl) (lv := [0, 2]) (js := []) ⟨rfl, rfl, rfl, rfl, rfl, rfl, _, rfl, ?_⟩
  cases b with
  | true =>
    conv => whnf
    refine ⟨[], rfl, ?_⟩
    conv => whnf
    exact ⟨⟨⟩, rfl, trivial⟩
  | false =>
    conv => whnf
    refine ⟨[], rfl, ?_⟩
    conv => whnf
    exact ⟨⟨⟩, rfl, trivial⟩
theorem see_good (r : Rd) (k : Int) (t : Bs) (hl : r.l.length ≤ 1000000) : Good Tryz.prog 210 [.ptr 0 0 0, .int .i64 k, .str t] [r.ob] [.bool (r.see k t)] [r.ob] := by
  obtain ⟨l, i, b, o, w⟩ := r
  dsimp only at hl
  refine good_of hP Tryz.func210 (by kernel_rfl) (lv := [0, 1, 2, 6]) (js := []) ⟨rfl, rfl, rfl, rfl, rfl, rfl, _, rfl, ?_⟩
  unfold Rd.see
  conv => whnf
  refine callN [(0, 0)] (open_good ⟨l, i, b, o, w⟩) ?_ 
  conv => whnf
  refine ⟨⟨⟩, rfl, ?_⟩
  cases Rd.isOpen ⟨l, i, b, o, w⟩ with
  | false =>
    conv => whnf
    refine ⟨by kernel_rfl, ?_⟩
    conv => whnf
    refine ⟨[], rfl, ?_⟩
    conv => whnf
    exact ⟨⟨⟩, rfl, trivial⟩
  | true =>
    conv => whnf
    refine branch_of (fun h => ?_) (fun h => ?_)
    · have h := of_decide_eq_true h
      rw [List.length_map] at h
      try dsimp only at h
      have hi : i < l.length := by omega
      have hc : Rd.cur ⟨l, i, b, o, w⟩ = some (l[i].k, l[i].t) := by simp [Rd.cur, hi]
      rw [hc, show decide (some (l[i].k, l[i].t) = some (k, t)) = (decide (l[i].k = k) && decide (l[i].t = t)) from by rw [Bool.eq_iff_iff]; simp]
      conv => whnf
      refine ⟨Tok.c l[i], idxM hi rfl, ?_⟩
      conv => whnf
      refine branch_of (fun h2 => ?_) (fun h2 => ?_)
      · rw [h2]
        conv => whnf
        refine ⟨Tok.c l[i], idxM hi rfl, ?_⟩
        conv => whnf
        refine ⟨by kernel_rfl, ?_⟩
        conv => whnf
        refine ⟨[], rfl, ?_⟩
        conv => whnf
        exact ⟨⟨⟩, rfl, trivial⟩
      · rw [h2]
        conv => whnf
        refine ⟨by kernel_rfl, ?_⟩
        conv => whnf
        refine ⟨[], rfl, ?_⟩
        conv => whnf
        exact ⟨⟨⟩, rfl, trivial⟩
    · have h := of_decide_eq_false h
      rw [List.length_map] at h
      try dsimp only at h
      have hc : Rd.cur ⟨l, i, b, o, w⟩ = none := by
        unfold Rd.cur; rw [List.getElem?_eq_none (by dsimp only; omega)]; rfl
      rw [hc]
      conv => whnf
      refine ⟨by kernel_rfl, ?_⟩
      conv => whnf
      refine ⟨[], rfl, ?_⟩
      conv => whnf
      exact ⟨⟨⟩, rfl, trivial⟩
theorem cur_lt' {r : Rd} {k : Int} {t : Bs} (h : r.see k t = true) : r.i < r.l.length := Rd.cur_lt (Rd.see_open h).2
theorem rsign_good' (r : Rd) (t : Bs) (hl : r.l.length ≤ 1000000) : Good Tryz.prog 154 [.ptr 0 0 0, .str t] [r.ob] [.bool (r.see 5 t)] [(r.word 5 t).ob] := by
  refine good_of hP Tryz.func154 (by kernel_rfl) (lv := [0, 1, 4, 5, 9]) (js := []) ⟨rfl, rfl, rfl, rfl, rfl, rfl, _, rfl, ?_⟩
  unfold Rd.word
  conv => whnf
  refine callN [(0, 0)] (see_good r 5 t hl) ?_ 
  conv => whnf
  refine ⟨⟨⟩, rfl, ?_⟩
  cases h : r.see 5 t with
  | false =>
    conv => whnf
    refine ⟨[], rfl, ?_⟩
    conv => whnf
    exact ⟨⟨⟩, rfl, trivial⟩
  | true =>
    have := cur_lt' h
    rw [if_pos rfl]
    have hw : IntKind.i64.wrap ((r.i : Int) + 1) = (r.i + 1 : Nat) := by rw [wr (by omega) (by omega)]; rfl
    conv => whnf
    rw [hw]
    refine ⟨[], rfl, ?_⟩
    conv => whnf
    exact ⟨⟨⟩, rfl, trivial⟩
theorem want_good (r : Rd) (t : Bs) (hl : r.l.length ≤ 1000000) : Good Tryz.prog 94 [.ptr 0 0 0, .str t] [r.ob] [] [(r.want 5 t).ob] := by
  refine good_of hP Tryz.func94 (by kernel_rfl) (lv := [0, 1, 11]) (js := []) ⟨rfl, rfl, rfl, rfl, rfl, rfl, _, rfl, ?_⟩
  unfold Rd.want
  conv => whnf
  refine callN [(0, 0)] (open_good r) ?_ 
  conv => whnf
  refine ⟨⟨⟩, rfl, ?_⟩
  cases ho : r.isOpen with
  | false =>
    have : r.see 5 t = false := by simp [Rd.see, ho]
    rw [this]
    conv => whnf
    refine ⟨[], rfl, ?_⟩
    conv => whnf
    exact ⟨⟨⟩, rfl, trivial⟩
  | true =>
    conv => whnf
    refine callN [(0, 0)] (rsign_good' r t hl) ?_ 
    conv => whnf
    refine ⟨⟨⟩, rfl, ?_⟩
    unfold Rd.word
    cases hs : r.see 5 t with
    | true =>
      rw [if_pos rfl, if_pos rfl]
      conv => whnf
      refine ⟨[], rfl, ?_⟩
      conv => whnf
      exact ⟨⟨⟩, rfl, trivial⟩
    | false =>
      conv => whnf
      refine ⟨[], rfl, ?_⟩
      conv => whnf
      exact ⟨⟨⟩, rfl, trivial⟩
theorem rname_good (r : Rd) (hl : r.l.length ≤ 1000000) (ht : ∀ t ∈ r.l, t.t.length ≤ 1000000) : Good Tryz.prog 93 [.ptr 0 0 0] [r.ob] [.str r.name.1] [r.name.2.ob] := by
  obtain ⟨l, i, b, o, w⟩ := r
  dsimp only at hl ht
  refine good_of hP Tryz.func93 (by kernel_rfl) (lv := [0, 2, 5, 44]) (js := []) ⟨rfl, rfl, rfl, rfl, rfl, rfl, _, rfl, ?_⟩
  unfold Rd.name
  conv => whnf
  refine callN [(0, 0)] (open_good ⟨l, i, b, o, w⟩) ?_ 
  conv => whnf
  refine ⟨⟨⟩, rfl, ?_⟩
  cases Rd.isOpen ⟨l, i, b, o, w⟩ with
  | false =>
    conv => whnf
    refine ⟨[], rfl, ?_⟩
    conv => whnf
    exact ⟨⟨⟩, rfl, trivial⟩
  | true =>
    rw [if_pos rfl]
    conv => whnf
    refine branch_of (fun h => ?_) (fun h => ?_)
    · have h := of_decide_eq_true h
      rw [List.length_map] at h
      try dsimp only at h
      have hc : Rd.cur ⟨l, i, b, o, w⟩ = none := by
        unfold Rd.cur; rw [List.getElem?_eq_none (by dsimp only; omega)]; rfl
      rw [hc]
      conv => whnf
      refine ⟨by kernel_rfl, ?_⟩
      conv => whnf
      refine ⟨[], rfl, ?_⟩
      conv => whnf
      exact ⟨⟨⟩, rfl, trivial⟩
    · have h := of_decide_eq_false h
      rw [List.length_map] at h
      try dsimp only at h
      have hi : i < l.length := by omega
      have hc : Rd.cur ⟨l, i, b, o, w⟩ = some (l[i].k, l[i].t) := by simp [Rd.cur, hi]
      rw [hc]
      conv => whnf
      refine ⟨Tok.c l[i], idxM hi rfl, ?_⟩
      conv => whnf
      refine branch_of (fun h2 => ?_) (fun h2 => ?_)
      · rw [Bool.not_eq_true'] at h2
        have h2 := of_decide_eq_false h2
        have e : ¬ (l[i].k = 1 ∧ nameS l[i].t = true) := fun h => h2 h.1
        dsimp only
        rw [if_neg e]
        conv => whnf
        refine ⟨by kernel_rfl, ?_⟩
        conv => whnf
        refine ⟨[], rfl, ?_⟩
        conv => whnf
        exact ⟨⟨⟩, rfl, trivial⟩
      · rw [Bool.not_eq_false'] at h2
        have h2 := of_decide_eq_true h2
        conv => whnf
        refine ⟨Tok.c l[i], idxM hi rfl, ?_⟩
        conv => whnf
        refine call0 (fname_good l[i].t (ht _ (List.getElem_mem hi))) ?_
        cases hn : nameS l[i].t with
        | false =>
          dsimp only
          rw [if_neg (by simp [hn])]
          conv => whnf
          refine ⟨by kernel_rfl, ?_⟩
          conv => whnf
          refine ⟨[], rfl, ?_⟩
          conv => whnf
          exact ⟨⟨⟩, rfl, trivial⟩
        | true =>
          dsimp only
          rw [if_pos ⟨h2, hn⟩]
          have hw : IntKind.i64.wrap ((i : Int) + 1) = (i + 1 : Nat) := by rw [wr (by omega) (by omega)]; rfl
          conv => whnf
          refine ⟨by kernel_rfl, ?_⟩
          conv => whnf
          rw [hw]
          refine ⟨Tok.c l[i], idxM hi (by rw [wr (by omega) (by omega)]; omega), ?_⟩
          conv => whnf
          refine ⟨by kernel_rfl, ?_⟩
          conv => whnf
          refine ⟨[], rfl, ?_⟩
          conv => whnf
          exact ⟨⟨⟩, rfl, trivial⟩
theorem value_good (t : Tok) (ht : t.t.length ≤ 100000) : Good Tryz.prog 211 [.agg t.c] [] [.agg (valueT (kt t)).c, .bool (valueS (kt t)).isSome] [] := by
  obtain ⟨k, s, p⟩ := t
  dsimp only at ht
  refine good_of hP Tryz.func211 (by kernel_rfl) (lv := [0, 1, 2, 3, 4, 5, 6, 7, 8, 10, 11, 19]) (js := []) ⟨rfl, rfl, rfl, rfl, rfl, rfl, _, rfl, ?_⟩
  unfold valueT valueS kt
  dsimp only
  conv => whnf
  refine branch_of (fun h => ?_) (fun h => ?_)
  · have h := of_decide_eq_true h
    rw [if_pos h, if_pos h]
    conv => whnf
    refine call0 (svar_good s (by omega)) ?_
    conv => whnf
    refine ⟨by kernel_rfl, ?_⟩
    conv => whnf
    refine fin0 ?_ trivial
    cases varS s <;> rfl
  · have h := of_decide_eq_false h
    rw [if_neg h, if_neg h]
    conv => whnf
    refine branch_of (fun h1 => ?_) (fun h1 => ?_)
    · have h1 := of_decide_eq_true h1
      rw [if_pos h1, if_pos h1]
      conv => whnf
      refine call0 (number_good s ht) ?_
      conv => whnf
      refine fin0 ?_ trivial
      cases numberS s <;> rfl
    · have h1 := of_decide_eq_false h1
      rw [if_neg h1, if_neg h1]
      conv => whnf
      refine call0 (parse_good s (by omega)) ?_
      cases hp : parseS s with
      | none =>
        conv => whnf
        exact fin0 rfl trivial
      | some v =>
        conv => whnf
        refine branch_of (fun h2 => ?_) (fun h2 => ?_)
        · have h2 : k = 1 := of_decide_eq_true h2
          conv => whnf
          refine branch_of (fun h3 => ?_) (fun h3 => ?_)
          · have h3 := of_decide_eq_true h3
            have h3 : v.k = 2 := h3
            conv => whnf
            exact fin0 (by simp [h2, h3]) trivial
          · have h3 := of_decide_eq_false h3
            have h3 : ¬ v.k = 2 := h3
            conv => whnf
            refine branch_of (fun h4 => ?_) (fun h4 => ?_)
            · have h4 : k = 4 := of_decide_eq_true h4; omega
            · conv => whnf
              exact fin0 (by simp [h2, h3]) trivial
        · have h2 : ¬ k = 1 := of_decide_eq_false h2
          conv => whnf
          refine branch_of (fun h4 => ?_) (fun h4 => ?_)
          · have h4 : k = 4 := of_decide_eq_true h4
            conv => whnf
            refine fin0 ?_ trivial
            by_cases h5 : v.k = 3 <;> simp [h4, h5]
          · have h4 : ¬ k = 4 := of_decide_eq_false h4
            conv => whnf
            exact fin0 (by simp [h2, h4]) trivial
theorem rterm_good (r : Rd) (hl : r.l.length ≤ 1000000) (ht : ∀ t ∈ r.l, t.t.length ≤ 100000) : Good Tryz.prog 155 [.ptr 0 0 0] [r.ob] [.agg r.term.1.c] [r.term.2.ob] := by
  obtain ⟨l, i, b, o, w⟩ := r
  dsimp only at hl ht
  refine good_of hP Tryz.func155 (by kernel_rfl) (lv := [0, 2, 3, 4, 7, 18, 33]) (js := []) ⟨rfl, rfl, rfl, rfl, rfl, rfl, _, rfl, ?_⟩
  unfold Rd.term
  conv => whnf
  refine callN [(0, 0)] (open_good ⟨l, i, b, o, w⟩) ?_ 
  conv => whnf
  refine ⟨⟨⟩, rfl, ?_⟩
  cases Rd.isOpen ⟨l, i, b, o, w⟩ with
  | false =>
    conv => whnf
    refine ⟨[], rfl, ?_⟩
    conv => whnf
    exact ⟨⟨⟩, rfl, trivial⟩
  | true =>
    rw [if_pos rfl]
    conv => whnf
    refine ⟨by kernel_rfl, ?_⟩
    conv => whnf
    refine branch_of (fun h => ?_) (fun h => ?_)
    · have h := of_decide_eq_true h
      rw [List.length_map] at h
      try dsimp only at h
      have hi : i < l.length := by omega
      have hc : Rd.cur ⟨l, i, b, o, w⟩ = some (kt l[i]) := by simp [Rd.cur, hi]
      rw [hc, Option.bind_some]
      conv => whnf
      refine ⟨Tok.c l[i], idxM hi rfl, ?_⟩
      conv => whnf
      refine call0 (value_good l[i] (ht _ (List.getElem_mem hi))) ?_
      cases hv : valueS (kt l[i]) with
      | none =>
        conv => whnf
        refine ⟨by kernel_rfl, ?_⟩
        conv => whnf
        refine ⟨[], rfl, ?_⟩
        conv => whnf
        exact ⟨⟨⟩, rfl, trivial⟩
      | some t =>
        rw [valueS_T hv]
        have hw : IntKind.i64.wrap ((i : Int) + 1) = (i + 1 : Nat) := by rw [wr (by omega) (by omega)]; rfl
        conv => whnf
        refine ⟨by kernel_rfl, ?_⟩
        conv => whnf
        rw [hw]
        refine ⟨[], rfl, ?_⟩
        conv => whnf
        exact ⟨⟨⟩, rfl, trivial⟩
    · have h := of_decide_eq_false h
      rw [List.length_map] at h
      try dsimp only at h
      have hc : Rd.cur ⟨l, i, b, o, w⟩ = none := by
        unfold Rd.cur; rw [List.getElem?_eq_none (by dsimp only; omega)]; rfl
      rw [hc]
      conv => whnf
      refine ⟨[], rfl, ?_⟩
      conv => whnf
      exact ⟨⟨⟩, rfl, trivial⟩
end Go.PV
namespace Go.PV
open Go Go.Proofs
set_option maxRecDepth 100000
/-- signs that are played -/
def tokB (l : List Tok) : Prop := l.length ≤ 1000000 ∧ ∀ t ∈ l, t.t.length ≤ 100000
theorem tokB_R (s : Bs) (hs : s.length ≤ 20000) : tokB (toksR s) := by
  have hc := chain_R s
  have h1 : (toksR s).length ≤ 1000000 := by
    rcases chain_len hc with h | h
    · omega
    · rw [h]; exact Nat.zero_le _
  refine ⟨h1, fun t ht => ?_⟩
  have h2 := chain_lens hc (Nat.zero_le _)
  have : ∀ l : List Tok, t ∈ l → t.t.length ≤ lens l := fun l => by
    induction l with
    | nil => intro h; cases h
    | cons u l ih =>
      intro h
      simp only [lens, List.map_cons, List.sum_cons] at ih ⊢
      rcases List.mem_cons.1 h with rfl | h
      · omega
      · have := ih h; omega
  have := this _ ht
  omega
theorem take5 {α : Type} (t : α) (ts : List α) (u : α) : (t :: (ts ++ [u])).take 5 = if ts.length + 2 ≤ 5 then (t :: ts).take 5 ++ [u] else (t :: ts).take 5 := by
  rw [← List.cons_append]
  split
  · rw [List.take_of_length_le (by simp; omega), List.take_of_length_le (by simp; omega)]
  · rw [List.take_append_of_le_length (by simp; omega)]
theorem ratom_good (r : Rd) (hb : tokB r.l) : Good Tryz.prog 95 [.ptr 0 0 0] [r.ob] [.agg r.atom.1.c] [r.atom.2.ob] := by
  obtain ⟨hl, ht⟩ := hb
  refine good_of hP Tryz.func95 (by kernel_rfl) (lv := [0, 2, 3, 4, 5, 11, 21, 27, 37]) (js := []) ⟨rfl, rfl, rfl, rfl, rfl, rfl, _, rfl, ?_⟩
  have hn := Rd.name_l r
  conv => whnf
  refine callN [(0, 0)] (rname_good r hl (fun t h => Nat.le_trans (ht t h) (by omega))) ?_ 
  conv => whnf
  refine ⟨⟨⟩, rfl, ?_⟩
  conv => whnf
  refine callN [(0, 0)] (rsign_good' r.name.2 [40] (by rw [hn.1]; exact hl)) ?_ 
  conv => whnf
  refine ⟨⟨⟩, rfl, ?_⟩
  unfold Rd.word
  cases hs : r.name.2.see 5 [40] with
  | false =>
    rw [Rd.atom_no hs]
    conv => whnf
    refine ⟨[], rfl, ?_⟩
    conv => whnf
    exact ⟨⟨⟩, rfl, trivial⟩
  | true =>
    rw [if_pos rfl, Rd.atom_yes hs]
    generalize hx : r.name = x at *
    have h1 := Rd.term_l x.2.step
    conv => whnf
    refine callN [(0, 0)] (rterm_good x.2.step (by rw [show x.2.step.l = x.2.l from rfl, hn.1]; exact hl) (by rw [show x.2.step.l = x.2.l from rfl, hn.1]; exact ht)) ?_ 
    conv => whnf
    refine ⟨⟨⟩, rfl, ?_⟩
    conv => whnf
    refine ⟨⟨⟩, by dsimp only; simp only [List.length_cons, List.length_nil]; omega, ?_⟩
    conv => whnf
    refine ⟨by kernel_rfl, ?_⟩
    conv => whnf
    generalize hy : x.2.step.term = y at *
    have hyl : y.2.l = r.l := h1.1.trans hn.1
    have hF : x.2.l.length = r.l.length := by rw [hn.1]
    rw [hF]
    generalize hU : Rd.args r.l.length y.2 = U
    refine loop_of hP [0, 2, 3, 4, 5, 11, 21, 27, 37] [] [0, 2, 3, 4] [66, 67, 82] [] (fun m st => ∃ (f : Nat) (ts : List Trm) (q : Rd), m = q.l.length - q.i ∧ q.l = r.l ∧ q.l.length ≤ f + q.i ∧ f + ts.length = r.l.length ∧ U = (ts ++ (Rd.args f q).1, (Rd.args f q).2) ∧
      st = ⟨[(0, .ptr 0 0 0), (2, .ptr 66 0 0), (3, .ptr 67 0 0), (4, .int .i64 (ts.length + 1 : Nat))], [(0, q.ob), (66, .box 0 [.str [], .nil]), (67, .box 0 [.str x.1, .own 82 0]), (82, .arr 0 false 4 (trmV ((y.1 :: ts).take 5)))]⟩) (y.2.l.length - y.2.i) ?_ ?_
    · conv => whnf
      exact ⟨r.l.length, [], y.2, rfl, hyl, by rw [hyl]; omega, rfl, hU.symm, rfl⟩
    · rintro m st ⟨f, ts, q, rfl, hq, hf, hts, he, rfl⟩
      conv => whnf
      refine callN [(0, 0)] (rsign_good' q [44] (by rw [hq]; exact hl)) ?_ 
      conv => whnf
      refine ⟨⟨⟩, rfl, ?_⟩
      unfold Rd.word
      cases hs2 : q.see 5 [44] with
      | true =>
        have hlt := cur_lt' hs2
        obtain ⟨f, rfl⟩ : ∃ f', f = f' + 1 := ⟨f - 1, by omega⟩
        rw [Rd.args, if_pos hs2] at he
        rw [if_pos rfl]
        have h2 := Rd.term_l q.step
        conv => whnf
        refine callN [(0, 0)] (rterm_good q.step (by rw [show q.step.l = q.l from rfl, hq]; exact hl) (by rw [show q.step.l = q.l from rfl, hq]; exact ht)) ?_ 
        conv => whnf
        refine ⟨⟨⟩, rfl, ?_⟩
        conv => whnf
        generalize hz : q.step.term = z at *
        have h3 : q.i + 1 ≤ z.2.i := h2.2.1
        have h4 : z.2.l = q.l := h2.1
        have hw : IntKind.i64.wrap (((ts.length + 1 : Nat) : Int) + 1) = (ts.length + 1 + 1 : Nat) := by rw [wr (by omega) (by omega)]; rfl
        have hU2 : U = ((ts ++ [z.1]) ++ (Rd.args f z.2).1, (Rd.args f z.2).2) := by rw [he]; simp
        refine branch_of (fun h5 => ?_) (fun h5 => ?_)
        · have h5 := of_decide_eq_true h5
          rw [hw] at h5
          conv => whnf
          refine ⟨⟨⟩, by dsimp only; simp only [List.length_map, List.length_take, List.length_cons, List.length_nil]; omega, ?_⟩
          conv => whnf
          refine ⟨z.2.l.length - z.2.i, by rw [h4]; omega, f, ts ++ [z.1], z.2, rfl, h4.trans hq, by rw [h4]; omega, by simp; omega, hU2, ?_⟩
          rw [hw, take5, if_pos (by omega), List.length_append, show trmV ((y.1 :: ts).take 5 ++ [z.1]) = trmV ((y.1 :: ts).take 5) ++ [z.1.c] from List.map_append]
          rfl
        · have h5 := of_decide_eq_false h5
          rw [hw] at h5
          conv => whnf
          refine ⟨z.2.l.length - z.2.i, by rw [h4]; omega, f, ts ++ [z.1], z.2, rfl, h4.trans hq, by rw [h4]; omega, by simp; omega, hU2, ?_⟩
          rw [hw, take5, if_neg (by omega), List.length_append]
          rfl
      | false =>
        have hu : Rd.args f q = ([], q) := by cases f <;> simp [Rd.args, hs2]
        rw [hu, List.append_nil] at he
        subst he
        conv => whnf
        refine callN [(0, 0)] (want_good q [41] (by rw [hq]; exact hl)) ?_ 
        conv => whnf
        refine ⟨⟨⟩, rfl, ?_⟩
        conv => whnf
        refine branch_of (fun h5 => ?_) (fun h5 => ?_)
        · have h5 := of_decide_eq_true h5
          rw [if_pos (by dsimp only; omega)]
          conv => whnf
          refine ⟨[], rfl, ?_⟩
          conv => whnf
          exact ⟨⟨⟩, rfl, trivial⟩
        · have h5 := of_decide_eq_false h5
          rw [if_neg (by dsimp only; omega)]
          conv => whnf
          refine ⟨[], rfl, ?_⟩
          conv => whnf
          exact ⟨⟨⟩, rfl, trivial⟩
theorem begin_good (l : List Tok) (i : Int) (hl : l.length ≤ 1000000) : (0 ≤ i ∧ i ≤ l.length → Good Tryz.prog 89 [.sl 4 (toksV l), .int .i64 i] [] [.ptr 0 0 0, .int .i64 0] [(rd0 l i.toNat).ob]) ∧
    (¬ (0 ≤ i ∧ i ≤ l.length) → Good Tryz.prog 89 [.sl 4 (toksV l), .int .i64 i] [] [.ptr 0 0 0, .int .i64 1] [.box 0 [.nil, .int .i64 0, .bool false, .bool false, .bool false]]) := by
  constructor
  · rintro ⟨h0, h1⟩
    obtain ⟨n, rfl⟩ : ∃ n : Nat, i = n := ⟨i.toNat, by omega⟩
    refine good_of hP Tryz.func89 (by kernel_rfl) (lv := [0, 1, 4, 5, 13]) (js := []) ⟨rfl, rfl, rfl, rfl, rfl, rfl, _, rfl, ?_⟩
    conv => whnf
    refine branch_of (fun h => ?_) (fun h => ?_)
    · have h := of_decide_eq_true h
      rw [List.length_map] at h; omega
    conv => whnf
    refine ⟨[(83, 0)], rfl, ?_⟩
    conv => whnf
    exact ⟨⟨⟩, rfl, trivial⟩
  · intro h0
    refine good_of hP Tryz.func89 (by kernel_rfl) (lv := [0, 1, 4, 5, 13]) (js := []) ⟨rfl, rfl, rfl, rfl, rfl, rfl, _, rfl, ?_⟩
    conv => whnf
    refine branch_of (fun h => ?_) (fun h => ?_)
    · conv => whnf
      refine ⟨[(79, 0)], rfl, ?_⟩
      conv => whnf
      exact ⟨⟨⟩, rfl, trivial⟩
    have h := of_decide_eq_false h
    conv => whnf
    refine branch_of (fun h2 => ?_) (fun h2 => ?_)
    · conv => whnf
      refine ⟨[(79, 0)], rfl, ?_⟩
      conv => whnf
      exact ⟨⟨⟩, rfl, trivial⟩
    · have h2 := of_decide_eq_false h2
      rw [List.length_map] at h2; omega
theorem end_good (r : Rd) (a : Nat) : Good Tryz.prog 91 [.ptr 0 0 0, .int .i64 a] [r.ob] [.int .i64 (r.endI a), .int .i64 r.endE] [r.ob] := by
  obtain ⟨l, i, b, o, w⟩ := r
  refine good_of hP Tryz.func91 (by kernel_rfl) (lv := [0, 1, 4, 5, 6, 21]) (js := []) ⟨rfl, rfl, rfl, rfl, rfl, rfl, _, rfl, ?_⟩
  unfold Rd.endI Rd.endE
  cases b with
  | true =>
    conv => whnf
    refine ⟨by kernel_rfl, ?_⟩
    conv => whnf
    refine ⟨[], by dsimp only; rw [if_pos rfl, List.length_map]; congr 3; omega, ?_⟩
    conv => whnf
    exact ⟨⟨⟩, rfl, trivial⟩
  | false =>
    cases o with
    | true =>
      conv => whnf
      refine ⟨[], rfl, ?_⟩
      conv => whnf
      exact ⟨⟨⟩, rfl, trivial⟩
    | false =>
      cases w with
      | true =>
        conv => whnf
        refine ⟨[], rfl, ?_⟩
        conv => whnf
        exact ⟨⟨⟩, rfl, trivial⟩
      | false =>
        conv => whnf
        refine ⟨[], rfl, ?_⟩
        conv => whnf
        exact ⟨⟨⟩, rfl, trivial⟩
end Go.PV
namespace Go.PV
open Go
/-! expressions: their texts, their trees -/
def opT (k : Int) : Bs := if k = 3 then [43] else if k = 4 then [45] else [42]
def nodeT (k : Int) (a b : Bs) : Bs := [40] ++ a ++ [32] ++ opT k ++ [32] ++ b ++ [41]
/-- the stack of texts, the last one first -/
def xtGo : List Bs → List Stp → List Bs
  | st, [] => st
  | st, o :: r => if o.k ≤ 2 then xtGo (termT ⟨o.v, o.x⟩ :: st) r else match st with
    | b :: a :: st' => xtGo (nodeT o.k a b :: st') r
    | _ => []
theorem xt_push {o : Stp} (h : o.k ≤ 2) (st : List Bs) (r : List Stp) : xtGo st (o :: r) = xtGo (termT ⟨o.v, o.x⟩ :: st) r := by
  cases st with
  | nil => simp only [xtGo]; rw [if_pos h]
  | cons a st => cases st with
    | nil => simp only [xtGo]; rw [if_pos h]
    | cons b st => simp only [xtGo]; rw [if_pos h]
theorem xt_op {o : Stp} (h : ¬ o.k ≤ 2) (b a : Bs) (st : List Bs) (r : List Stp) : xtGo (b :: a :: st) (o :: r) = xtGo (nodeT o.k a b :: st) r := by
  simp only [xtGo]; rw [if_neg h]
def exprT (l : List Stp) : Bs := (xtGo [] l).headD []
theorem stpOk_k {o : Stp} (h : stpOk o = true) : 1 ≤ o.k ∧ o.k ≤ 5 := by
  unfold stpOk at h
  by_cases h1 : o.k = 1
  · omega
  · by_cases h2 : o.k = 2
    · omega
    · by_cases h3 : o.k = 3 ∨ o.k = 4 ∨ o.k = 5
      · omega
      · rw [if_neg h1, if_neg h2, if_neg h3] at h; cases h
theorem stpOk_push {o : Stp} (h : stpOk o = true) (hk : o.k ≤ 2) : termOk ⟨o.v, o.x⟩ = true ∧ o.k = if o.v = [] then 2 else 1 := by
  have := stpOk_k h
  unfold stpOk at h
  unfold termOk
  dsimp only
  by_cases h1 : o.k = 1
  · rw [if_pos h1, Bool.and_eq_true, decide_eq_true_eq] at h
    rw [if_neg (varS_ne h.1), if_neg (varS_ne h.1), h.1, h.2]; exact ⟨rfl, h1⟩
  · have h2 : o.k = 2 := by omega
    rw [if_neg h1, if_pos h2, Bool.and_eq_true, decide_eq_true_eq] at h
    rw [if_pos h.1, if_pos h.1]; exact ⟨h.2, h2⟩
theorem stpOk_op {o : Stp} (h : stpOk o = true) (hk : ¬ o.k ≤ 2) : (o.k = 3 ∨ o.k = 4 ∨ o.k = 5) ∧ o = ⟨o.k, [], zeroV⟩ := by
  have h5 := stpOk_k h
  have h3 : o.k = 3 ∨ o.k = 4 ∨ o.k = 5 := by omega
  unfold stpOk at h
  rw [if_neg (by omega), if_neg (by omega), if_pos h3, Bool.and_eq_true, decide_eq_true_eq, decide_eq_true_eq] at h
  obtain ⟨k, v, x⟩ := o
  exact ⟨h3, by rw [← h.1, ← h.2]⟩
/-- an expression's tree -/
inductive Tree where
  | leaf (t : Trm)
  | node (k : Int) (a b : Tree)
namespace Tree
def ops : Tree → List Stp
  | leaf t => [⟨if t.v = [] then 2 else 1, t.v, t.x⟩]
  | node k a b => a.ops ++ b.ops ++ [⟨k, [], zeroV⟩]
def ok : Tree → Bool
  | leaf t => termOk t
  | node k a b => decide (k = 3 ∨ k = 4 ∨ k = 5) && a.ok && b.ok
def txt : Tree → Bs
  | leaf t => termT t
  | node k a b => nodeT k a.txt b.txt
/-- its signs -/
def toks : Bs → Tree → List (Bs × KT)
  | b, leaf t => [(b, termK t)]
  | b, node k x y => (b, (5, [40])) :: (x.toks [] ++ ([32], (5, opT k)) :: (y.toks [32] ++ [([], (5, [41]))]))
def size : Tree → Nat
  | leaf _ => 1
  | node _ a b => a.size + b.size + 1
def deep : Tree → Nat
  | leaf _ => 0
  | node _ a b => max a.deep b.deep + 1
theorem ops_len : ∀ T : Tree, T.ops.length = T.size
  | leaf _ => rfl
  | node _ a b => by simp only [ops, size, List.length_append, List.length_cons, List.length_nil, ops_len a, ops_len b]
theorem deep_size : ∀ T : Tree, 2 * T.deep + 1 ≤ T.size
  | leaf _ => by simp [deep, size]
  | node _ a b => by
    have := deep_size a; have := deep_size b
    simp only [deep, size]; omega
theorem ops_ok : ∀ {T : Tree}, T.ok = true → ∀ (d : Nat) (r : List Stp), depGo d (T.ops ++ r) = depGo (d + 1) r
  | leaf t, h, d, r => by
    have hs : stpOk ⟨if t.v = [] then 2 else 1, t.v, t.x⟩ = true ∧ (if t.v = [] then (2 : Int) else 1) ≤ 2 := by
      unfold ok termOk at h
      unfold stpOk
      by_cases hv : t.v = []
      · rw [if_pos hv] at h ⊢; simp [hv, h]
      · rw [if_neg hv] at h ⊢
        rw [Bool.and_eq_true] at h
        simp [h.1]; simpa using h.2
    simp only [ops, List.cons_append, List.nil_append, depGo]
    rw [if_pos hs.1, if_pos hs.2]
  | node k a b, h, d, r => by
    simp only [ok, Bool.and_eq_true, decide_eq_true_eq] at h
    have hs : stpOk ⟨k, [], zeroV⟩ = true := by
      unfold stpOk; rw [if_neg (by dsimp only; omega), if_neg (by dsimp only; omega), if_pos h.1.1]; simp
    simp only [ops, List.append_assoc]
    rw [ops_ok h.1.2, ops_ok h.2]
    simp only [List.cons_append, List.nil_append, depGo]
    rw [if_pos hs, if_neg (by omega), if_neg (by omega)]
    rfl
theorem xt_ops : ∀ {T : Tree}, T.ok = true → ∀ (st : List Bs) (r : List Stp), xtGo st (T.ops ++ r) = xtGo (T.txt :: st) r
  | leaf t, h, st, r => by
    simp only [ops, List.cons_append, List.nil_append, xtGo]
    rw [if_pos (by split <;> omega)]; rfl
  | node k a b, h, st, r => by
    simp only [ok, Bool.and_eq_true, decide_eq_true_eq] at h
    simp only [ops, List.append_assoc]
    rw [xt_ops h.1.2, xt_ops h.2]
    simp only [List.cons_append, List.nil_append, xtGo]
    rw [if_neg (by omega)]; rfl
/-- right steps are a tree's: what the stack holds -/
theorem of_dep : ∀ (l : List Stp) (S : List Tree), (∀ T ∈ S, T.ok = true) → ∀ n, depGo S.length l = some n → ∃ S' : List Tree, S'.length = n ∧ (∀ T ∈ S', T.ok = true) ∧ S'.reverse.flatMap ops = S.reverse.flatMap ops ++ l
  | [], S, hS, n, h => by
    simp only [depGo, Option.some.injEq] at h
    exact ⟨S, h, hS, by simp⟩
  | o :: r, S, hS, n, h => by
    simp only [depGo] at h
    split at h
    · rename_i ho
      split at h
      · rename_i hk
        obtain ⟨h1, h2⟩ := stpOk_push ho hk
        obtain ⟨S', a1, a2, a3⟩ := of_dep r (leaf ⟨o.v, o.x⟩ :: S) (fun T hT => by
          rcases List.mem_cons.1 hT with rfl | hT
          · exact h1
          · exact hS T hT) n (by simpa using h)
        refine ⟨S', a1, a2, ?_⟩
        rw [a3, List.reverse_cons, List.flatMap_append]
        have : ops (leaf ⟨o.v, o.x⟩) = [o] := by obtain ⟨k, v, x⟩ := o; simp only [ops]; dsimp only at h2; rw [← h2]
        simp [this]
      · rename_i hk
        split at h
        · cases h
        · rename_i hd
          obtain ⟨h1, h2⟩ := stpOk_op ho hk
          match S, hS, hd, h with
          | [], _, hd, _ => simp at hd
          | [_], _, hd, _ => simp at hd
          | B :: A :: S, hS, _, h =>
            obtain ⟨S', a1, a2, a3⟩ := of_dep r (node o.k A B :: S) (fun T hT => by
              rcases List.mem_cons.1 hT with rfl | hT
              · simp only [ok, Bool.and_eq_true, decide_eq_true_eq]
                exact ⟨⟨h1, hS A (by simp)⟩, hS B (by simp)⟩
              · exact hS T (by simp [hT])) n (by simpa using h)
            refine ⟨S', a1, a2, ?_⟩
            rw [a3]
            simp only [List.reverse_cons, List.flatMap_append, List.flatMap_cons, List.flatMap_nil, ops, List.append_nil, List.append_assoc]
            rw [← h2]; rfl
    · cases h
/-- right steps are a tree's -/
theorem of_ok {l : List Stp} (h : exprOk l = true) : ∃ T : Tree, T.ok = true ∧ T.ops = l ∧ T.size ≤ 15 := by
  unfold exprOk at h
  simp only [Bool.and_eq_true, decide_eq_true_eq] at h
  obtain ⟨S, h1, h2, h3⟩ := of_dep l [] (by simp) 1 (by simpa using h.2)
  match S, h1 with
  | [T], _ =>
    have e : T.ops = l := by simpa using h3
    exact ⟨T, h2 T (by simp), e, by rw [← ops_len, e]; exact h.1.2⟩
theorem to_ok {T : Tree} (h : T.ok = true) (hs : T.size ≤ 15) : exprOk T.ops = true := by
  unfold exprOk
  have := ops_ok h 0 []
  rw [List.append_nil] at this
  rw [this, ops_len]
  have : 1 ≤ T.size := by have := deep_size T; omega
  simp [depGo, hs, this]
theorem exprT_ops {T : Tree} (h : T.ok = true) : exprT T.ops = T.txt := by
  have := xt_ops h [] []
  rw [List.append_nil] at this
  unfold exprT; rw [this]; rfl
theorem ops_inj : ∀ {A B : Tree}, A.ok = true → B.ok = true → A.ops = B.ops → A.txt = B.txt := fun ha hb h => by
  rw [← exprT_ops ha, ← exprT_ops hb, h]
theorem weave_toks : ∀ (T : Tree) (b : Bs), weaveK (T.toks b) = b ++ T.txt
  | leaf t, b => by simp [toks, weaveK, txt, termK_T]
  | node k x y, b => by
    simp only [toks, weaveK, weaveK_app, weave_toks x, weave_toks y, txt, nodeT]
    simp
theorem op_tk {k : Int} (h : k = 3 ∨ k = 4 ∨ k = 5) : Tk (5, opT k) := by
  rcases h with rfl | rfl | rfl <;> (unfold Tk; decide +kernel)
theorem txt_head : ∀ {T : Tree}, T.ok = true → ∃ c r, T.txt = c :: r ∧ c.toNat ≠ 61 ∧ c.toNat ≠ 62
  | leaf t, h => by
    simp only [txt, ← termK_T]
    exact tk_head (tk_term h) (termK_5 t)
  | node k x y, h => ⟨40, _, by simp only [txt, nodeT]; rfl, by decide, by decide⟩
theorem wov : ∀ {T : Tree}, T.ok = true → ∀ (b tail : Bs), blk b = true → stopH tail = true → WovK tail (T.toks b)
  | leaf t, h, b, tail, hb, ht => ⟨hb, tk_term h, okEnd_stop ht, trivial⟩
  | node k x y, h, b, tail, hb, ht => by
    simp only [ok, Bool.and_eq_true, decide_eq_true_eq] at h
    refine ⟨hb, rfl, ?_, WovK.app (wov h.1.2 [] _ rfl rfl) ⟨rfl, op_tk h.1.1, ?_, WovK.app (wov h.2 [32] _ rfl rfl) ⟨rfl, rfl, okEnd_stop ht, trivial⟩⟩⟩
    · rw [weaveK_app, weave_toks, List.nil_append, List.append_assoc]
      obtain ⟨c, r, e, h1, h2⟩ := txt_head h.1.2
      rw [e]; exact okEnd_sign (by decide) ⟨h1, h2⟩
    · rw [weaveK_app, weave_toks]; exact okEnd_stop rfl
end Tree
namespace Rd
theorem reckons_rest {r : Rd} {k : Int} {m : List KT} (ho : r.isOpen = true) (hk : k = 3 ∨ k = 4 ∨ k = 5) (hr : r.rest = (5, opT k) :: m) : r.reckons = (k, r.step) := by
  have hs := see_rest ho hr
  have hn : ∀ x : Bs, x ≠ opT k → r.see 5 x = false := fun x hx => see_no (x := (5, x)) (by rw [hr]; simp; exact fun h => hx h.symm)
  unfold reckons
  rcases hk with rfl | rfl | rfl
  · have hs : r.see 5 [43] = true := hs
    rw [if_pos hs]
  · have hs : r.see 5 [45] = true := hs
    rw [hn [43] (by decide), if_neg (by simp), if_pos hs]
  · have hs : r.see 5 [42] = true := hs
    rw [hn [43] (by decide), if_neg (by simp), hn [45] (by decide), if_neg (by simp), if_pos hs]
theorem part_rest : ∀ {T : Tree}, T.ok = true → ∀ (n : Nat) (r : Rd) (b : Bs) (m : List KT), T.deep ≤ n → r.isOpen = true → r.rest = (T.toks b).map (·.2) ++ m → r.part n = (T.ops, r.adv (T.toks b).length)
  | .leaf t, h, n, r, b, m, hd, ho, hr => by
    have hr : r.rest = termK t :: m := hr
    have hs : r.see 5 [40] = false := see_no (x := (5, [40])) (by rw [hr]; simp; intro e; exact absurd (congrArg Prod.fst e) (termK_5 t))
    have ht := term_rest ho hr h
    cases n <;> (unfold part; rw [if_neg (by rw [hs]; simp), ht]; rfl)
  | .node k x y, h, n, r, b, m, hd, ho, hr => by
    simp only [Tree.ok, Bool.and_eq_true, decide_eq_true_eq] at h
    simp only [Tree.deep] at hd
    obtain ⟨n, rfl⟩ : ∃ n', n = n' + 1 := ⟨n - 1, by omega⟩
    have hr : r.rest = (5, [40]) :: ((x.toks []).map (·.2) ++ ((5, opT k) :: ((y.toks [32]).map (·.2) ++ ((5, [41]) :: m)))) := by
      rw [hr]; simp [Tree.toks]
    have h1 := rest_cons hr
    have adv_rest : ∀ {q : Rd} {a c : List KT}, q.rest = a ++ c → (q.adv a.length).rest = c := fun {q a c} e => by
      unfold rest at e ⊢
      unfold adv
      dsimp only
      rw [← List.drop_drop, List.map_drop, e, List.drop_left]
    have hx := part_rest h.1.2 n r.step [] _ (by omega) ho h1.2
    have h2 := adv_rest h1.2
    rw [List.length_map] at h2
    have hk := reckons_rest (r := r.step.adv (x.toks []).length) ho h.1.1 h2
    have h3 := (rest_cons h2).2
    have hy := part_rest h.2 n (r.step.adv (x.toks []).length).step [32] _ (by omega) ho h3
    have h4 := adv_rest h3
    rw [List.length_map] at h4
    have hw := want_rest (r := (r.step.adv (x.toks []).length).step.adv (y.toks [32]).length) ho (x := (5, [41])) h4
    rw [part, if_pos (see_rest ho hr)]
    dsimp only
    rw [hx]
    dsimp only
    rw [hk]
    dsimp only
    have ho2 : (r.step.adv (x.toks []).length).step.isOpen = true := ho
    have hw : ((r.step.adv (x.toks []).length).step.adv (y.toks [32]).length).want 5 [41] = ((r.step.adv (x.toks []).length).step.adv (y.toks [32]).length).step := hw
    rw [if_pos ho2, hy]
    dsimp only
    rw [hw]
    simp only [Tree.ops, Tree.toks, adv, step, List.length_cons, List.length_append, List.length_nil]
    congr 2; omega
theorem expr_rest {r : Rd} {T : Tree} {b : Bs} {m : List KT} (h : T.ok = true) (hs : T.size ≤ 15) (ho : r.isOpen = true) (hr : r.rest = (T.toks b).map (·.2) ++ m) : r.expr = (T.ops, r.adv (T.toks b).length) := by
  have hd := T.deep_size
  unfold expr
  rw [if_pos ho, part_rest h 15 r b m (by omega) ho hr]
  dsimp only
  rw [if_neg (by rw [Tree.ops_len]; omega)]
theorem reckons_l (r : Rd) : r.reckons.2.l = r.l ∧ r.i ≤ r.reckons.2.i := by
  unfold reckons
  split
  · exact ⟨rfl, Nat.le_succ _⟩
  · split
    · exact ⟨rfl, Nat.le_succ _⟩
    · split
      · exact ⟨rfl, Nat.le_succ _⟩
      · dsimp only; split <;> exact ⟨rfl, Nat.le_refl _⟩
theorem part_l : ∀ (n : Nat) (r : Rd), (r.part n).2.l = r.l ∧ r.i ≤ (r.part n).2.i
  | 0, r => by
    unfold part
    split
    · exact ⟨rfl, Nat.le_succ _⟩
    · have := term_l r; exact ⟨this.1, this.2.1⟩
  | n + 1, r => by
    unfold part
    split
    · have h1 := part_l n r.step
      have h2 := reckons_l (r.step.part n).2
      have h3 := part_l n (r.step.part n).2.reckons.2
      have h4 := want_l ((r.step.part n).2.reckons.2.part n).2 5 [41]
      have h5 : r.i + 1 ≤ (r.step.part n).2.i := h1.2
      dsimp only
      split
      · exact ⟨h4.1.trans (h3.1.trans (h2.1.trans h1.1)), by dsimp only; omega⟩
      · exact ⟨h2.1.trans h1.1, by dsimp only; omega⟩
    · have := term_l r; exact ⟨this.1, this.2.1⟩
theorem part_len : ∀ (n : Nat) (r : Rd), (r.part n).1.length + 1 ≤ 2 ^ (n + 1)
  | 0, r => by
    unfold part
    split <;> simp
  | n + 1, r => by
    have hp : 2 ≤ 2 ^ (n + 1) := by have := Nat.one_le_two_pow (n := n); rw [Nat.pow_succ]; omega
    unfold part
    split
    · have h1 := part_len n r.step
      have h3 := part_len n (r.step.part n).2.reckons.2
      dsimp only
      split
      · simp only [List.length_append, List.length_cons, List.length_nil]
        rw [Nat.pow_succ]; omega
      · rw [Nat.pow_succ]; simp; omega
    · rw [Nat.pow_succ]; simp; omega
theorem expr_l (r : Rd) : r.expr.2.l = r.l ∧ r.i ≤ r.expr.2.i := by
  unfold expr
  split
  · have := part_l 15 r
    dsimp only
    split <;> exact this
  · exact ⟨rfl, Nat.le_refl _⟩
theorem reckons_open {r : Rd} (h : r.reckons.2.isOpen = true) : r.isOpen = true ∧ (r.reckons.1 = 3 ∨ r.reckons.1 = 4 ∨ r.reckons.1 = 5) ∧ r.reckons.2 = r.step ∧ r.i < r.l.length := by
  unfold reckons at *
  split at h
  · rename_i hs; rw [if_pos hs]; exact ⟨(see_open hs).1, .inl rfl, rfl, cur_lt (see_open hs).2⟩
  · rename_i h1
    rw [if_neg h1]
    split at h
    · rename_i hs; rw [if_pos hs]; exact ⟨(see_open hs).1, .inr (.inl rfl), rfl, cur_lt (see_open hs).2⟩
    · rename_i h2
      rw [if_neg h2]
      split at h
      · rename_i hs; rw [if_pos hs]; exact ⟨(see_open hs).1, .inr (.inr rfl), rfl, cur_lt (see_open hs).2⟩
      · dsimp only at h
        split at h
        · simp [fail, isOpen] at h
        · rename_i h4; exact absurd h h4
theorem part_open : ∀ (n : Nat) (r : Rd), (r.part n).2.isOpen = true → r.isOpen = true ∧ (∃ T : Tree, T.ok = true ∧ T.ops = (r.part n).1) ∧ r.i < (r.part n).2.i ∧ (r.part n).2.i ≤ r.l.length ∧ (r.part n).2.wrong = r.wrong
  | 0, r, h => by
    unfold part at *
    split at h
    · simp [isOpen] at h
    · rename_i hs
      rw [if_neg hs]
      dsimp only at h ⊢
      obtain ⟨h1, h2, h3, h4⟩ := term_open h
      rw [h3]
      exact ⟨h1, ⟨.leaf r.term.1, h2, rfl⟩, by simp [step], by simp [step]; omega, rfl⟩
  | n + 1, r, h => by
    unfold part at *
    split at h
    · rename_i hs
      rw [if_pos hs]
      dsimp only at h ⊢
      split at h
      · rename_i hb
        rw [if_pos hb]
        dsimp only at h ⊢
        obtain ⟨w1, w2, w3⟩ := want_open h
        obtain ⟨c1, ⟨C, c2, c3⟩, c4, c5, c6⟩ := part_open n _ w1
        obtain ⟨b1, b2, b3, b4⟩ := reckons_open hb
        obtain ⟨a1, ⟨A, a2, a3⟩, a4, a5, a6⟩ := part_open n _ b1
        have hl1 := (part_l n r.step).1
        have hl2 := (reckons_l (r.step.part n).2).1
        have hl3 := (part_l n (r.step.part n).2.reckons.2).1
        refine ⟨(see_open hs).1, ⟨.node (r.step.part n).2.reckons.1 A C, by simp [Tree.ok, b2, a2, c2], by simp only [Tree.ops, a3, c3]⟩, ?_, ?_, ?_⟩
        · rw [w2]
          have h5 : r.i + 1 < (r.step.part n).2.i := a4
          have h6 : (r.step.part n).2.reckons.2.i = (r.step.part n).2.i + 1 := by rw [b3]; rfl
          show r.i < _ + 1
          omega
        · rw [w2]
          show _ + 1 ≤ _
          rw [hl3, hl2, hl1] at w3
          exact w3
        · rw [w2]
          show ((r.step.part n).2.reckons.2.part n).2.wrong = _
          rw [c6, b3]; exact a6
      · rename_i hb; exact absurd h hb
    · rename_i hs
      rw [if_neg hs]
      dsimp only at h ⊢
      obtain ⟨h1, h2, h3, h4⟩ := term_open h
      rw [h3]
      exact ⟨h1, ⟨.leaf r.term.1, h2, rfl⟩, by simp [step], by simp [step]; omega, rfl⟩
theorem expr_open {r : Rd} (h : r.expr.2.isOpen = true) : (r.expr.2.wrong = false → exprOk r.expr.1 = true) ∧ r.expr.2.l = r.l ∧ r.i < r.expr.2.i ∧ r.expr.2.i ≤ r.l.length := by
  have hl := expr_l r
  unfold expr at *
  split at h
  · rename_i ho
    rw [if_pos ho] at hl ⊢
    dsimp only at h hl ⊢
    have hp : (r.part 15).2.isOpen = true := by
      split at h
      · exact h
      · exact h
    obtain ⟨p1, ⟨T, p2, p3⟩, p4, p5, p6⟩ := part_open 15 r hp
    refine ⟨fun hw => ?_, hl.1, ?_, ?_⟩
    · have : ¬ 15 < (r.part 15).1.length := fun hlt => by rw [if_pos hlt] at hw; cases hw
      rw [← p3]
      rw [← p3, Tree.ops_len] at this
      exact Tree.to_ok p2 (by omega)
    · split <;> exact p4
    · split <;> exact p5
  · rename_i ho; exact absurd h ho
end Rd
theorem readX_ok {l : List Tok} {i : Nat} (h : (readX l i).2.2 = 0) : exprOk (readX l i).1 = true ∧ i < (readX l i).2.1 ∧ (readX l i).2.1 ≤ l.length := by
  unfold readX at *
  dsimp only at h ⊢
  obtain ⟨h1, h2, h3⟩ := endE_0 h
  obtain ⟨k1, k2, k3, k4⟩ := Rd.expr_open h1
  rw [if_pos h, h3]
  exact ⟨k1 h2, k3, k4⟩
theorem readX_back {l : List Tok} {i : Nat} {T : Tree} {b : Bs} {m : List KT} (h : T.ok = true) (hs : T.size ≤ 15) (hr : (l.drop i).map kt = (T.toks b).map (·.2) ++ m) : readX l i = (T.ops, i + (T.toks b).length, 0) := by
  have e := Rd.expr_rest (r := rd0 l i) h hs rfl hr
  unfold readX
  rw [e]; rfl
theorem readX_place {l : List Tok} {i : Nat} (h : i ≤ l.length) : i ≤ (readX l i).2.1 ∧ (readX l i).2.1 ≤ l.length ∧ ((readX l i).2.2 = 0 ∨ (readX l i).2.2 = 7) := by
  have hl := Rd.expr_l (rd0 l i)
  have h0 : (readX l i).2.2 = 0 ∨ (readX l i).2.2 = 7 := by
    unfold readX Rd.endE; dsimp only; split <;> simp
  refine ⟨?_, ?_, h0⟩
  · unfold readX Rd.endI; dsimp only
    have h2 : i ≤ (rd0 l i).expr.2.i := hl.2
    have h3 : (rd0 l i).expr.2.l = l := hl.1
    split
    · rw [h3]; omega
    · split
      · omega
      · exact h2
  · rcases h0 with h0 | h0
    · exact (readX_ok h0).2.2
    · unfold readX Rd.endI Rd.endE at *; dsimp only at *
      have h3 : (rd0 l i).expr.2.l = l := hl.1
      split
      · rw [h3]; omega
      · rename_i hb
        split
        · exact h
        · rename_i hc
          rw [if_neg] at h0
          · omega
          · simp only [Bool.or_eq_true] at hc ⊢; simp only [not_or] at hc; simp_all
theorem readA_place {l : List Tok} {i : Nat} (h : i ≤ l.length) : i ≤ (readA l i).2.1 ∧ (readA l i).2.1 ≤ l.length ∧ ((readA l i).2.2 = 0 ∨ (readA l i).2.2 = 7) := by
  have hl := Rd.atom_l (rd0 l i)
  have h0 : (readA l i).2.2 = 0 ∨ (readA l i).2.2 = 7 := by
    unfold readA Rd.endE; dsimp only; split <;> simp
  refine ⟨?_, ?_, h0⟩
  · unfold readA Rd.endI; dsimp only
    have h2 : i ≤ (rd0 l i).atom.2.i := hl.2
    have h3 : (rd0 l i).atom.2.l = l := hl.1
    split
    · rw [h3]; omega
    · split
      · omega
      · exact h2
  · rcases h0 with h0 | h0
    · exact (readA_ok h0).2.2
    · unfold readA Rd.endI Rd.endE at *; dsimp only at *
      have h3 : (rd0 l i).atom.2.l = l := hl.1
      split
      · rw [h3]; omega
      · rename_i hb
        split
        · exact h
        · rename_i hc
          rw [if_neg] at h0
          · omega
          · simp only [Bool.or_eq_true] at hc ⊢; simp only [not_or] at hc; simp_all
end Go.PV
namespace Go.PV
open Go Go.Proofs
set_option maxRecDepth 100000
theorem readA_good (l : List Tok) (i : Nat) (hb : tokB l) (hi : i ≤ l.length) : Good Tryz.prog 128 [.sl 4 (toksV l), .int .i64 i] [] [.agg (readA l i).1.c, .int .i64 (readA l i).2.1, .int .i64 (readA l i).2.2] [] := by
  refine good_of hP Tryz.func128 (by kernel_rfl) (lv := [0, 1, 4, 5, 6, 7, 15, 27]) (js := []) ⟨rfl, rfl, rfl, rfl, rfl, rfl, _, rfl, ?_⟩
  unfold readA
  dsimp only
  conv => whnf
  refine call0 ((begin_good l i hb.1).1 ⟨by omega, by omega⟩) ?_
  conv => whnf
  refine callN [(1728, 0)] (ratom_good (rd0 l i) hb) ?_ 
  conv => whnf
  refine ⟨⟨⟩, rfl, ?_⟩
  conv => whnf
  refine callN [(1728, 0)] (end_good (rd0 l i).atom.2 i) ?_ 
  conv => whnf
  refine ⟨⟨⟩, rfl, ?_⟩
  generalize (rd0 l i).atom = x
  by_cases he : x.2.endE = 0
  · rw [he, if_pos rfl]
    conv => whnf
    exact fin0 rfl trivial
  · rw [if_neg he]
    conv => whnf
    refine branch_of (fun h => ?_) (fun h => ?_)
    · conv => whnf
      exact fin0 rfl trivial
    · exact absurd (of_decide_eq_true (by simpa using h)) he
theorem readA_bad (l : List Tok) (i : Int) (hl : l.length ≤ 1000000) (hi : ¬ (0 ≤ i ∧ i ≤ l.length)) : Good Tryz.prog 128 [.sl 4 (toksV l), .int .i64 i] [] [.agg zeroA.c, .int .i64 0, .int .i64 1] [] := by
  refine good_of hP Tryz.func128 (by kernel_rfl) (lv := [0, 1, 4, 5, 6, 7, 15, 27]) (js := []) ⟨rfl, rfl, rfl, rfl, rfl, rfl, _, rfl, ?_⟩
  conv => whnf
  refine call0 ((begin_good l i hl).2 hi) ?_
  conv => whnf
  exact fin0 rfl trivial
theorem list_eq_of {α : Type} {a b : List α} (hl : a.length = b.length) (h : ∀ j (h1 : j < a.length) (h2 : j < b.length), a[j] = b[j]) : a = b := List.ext_getElem hl h
theorem keepOps_good (a b : List Stp) (ha : a.length ≤ 1000000) : Good Tryz.prog 183 [.sl 5 (stpV a), .sl 5 (stpV b)] [] [.bool (decide (a = b))] [] := by
  refine good_of hP Tryz.func183 (by kernel_rfl) (lv := [0, 1, 4, 5, 10, 14, 25]) (js := []) ⟨rfl, rfl, rfl, rfl, rfl, rfl, _, rfl, ?_⟩
  conv => whnf
  refine branch_of (fun h => ?_) (fun h => ?_)
  · rw [Bool.not_eq_true'] at h
    have h := of_decide_eq_false h
    rw [List.length_map, List.length_map] at h
    conv => whnf
    exact fin0 (by rw [decide_eq_false (by rintro rfl; exact h rfl)]) trivial
  rw [Bool.not_eq_false'] at h
  have h := of_decide_eq_true h
  rw [List.length_map, List.length_map] at h
  have hl : a.length = b.length := by omega
  conv => whnf
  refine loop_of hP [0, 1, 4, 5, 10, 14, 25] [] [0, 1, 5] [] [] (fun n st => ∃ k : Nat, n = a.length - k ∧ k ≤ a.length ∧ (∀ j (h1 : j < a.length) (h2 : j < b.length), j < k → a[j] = b[j]) ∧ st = ⟨[(0, .sl 5 (stpV a)), (1, .sl 5 (stpV b)), (5, .int .i64 k)], []⟩) a.length ?_ ?_
  · conv => whnf
    exact ⟨0, rfl, Nat.zero_le _, fun j _ _ h => by omega, rfl⟩
  · rintro n st ⟨k, rfl, hk, hn, rfl⟩
    conv => whnf
    refine branch_of (fun h => ?_) (fun h => ?_)
    · have h := of_decide_eq_true h
      rw [List.length_map] at h
      have hk' : k < a.length := by omega
      have hk2 : k < b.length := by omega
      conv => whnf
      refine ⟨Stp.c a[k], idxM hk' rfl, ?_⟩
      conv => whnf
      refine ⟨Stp.c b[k], idxM hk2 rfl, ?_⟩
      conv => whnf
      refine ⟨_, (eqStp a[k] b[k]).2, ?_⟩
      conv => whnf
      refine ⟨by kernel_rfl, ?_⟩
      conv => whnf
      refine branch_of (fun h2 => ?_) (fun h2 => ?_)
      · rw [Bool.not_eq_true'] at h2
        have h2 := of_decide_eq_false h2
        conv => whnf
        exact fin0 (by rw [decide_eq_false (by rintro rfl; exact h2 rfl)]) trivial
      · rw [Bool.not_eq_false'] at h2
        have h2 := of_decide_eq_true h2
        conv => whnf
        refine ⟨a.length - (k + 1), by omega, k + 1, rfl, by omega, fun j h1 h3 hj => ?_, ?_⟩
        · by_cases e : j = k
          · subst e; exact h2
          · exact hn j h1 h3 (by omega)
        · rw [wr (by omega) (by omega)]; rfl
    · have h := of_decide_eq_false h
      rw [List.length_map] at h
      conv => whnf
      exact fin0 (by rw [decide_eq_true (list_eq_of hl fun j h1 h2 => hn j h1 h2 (by omega))]) trivial
theorem keepAtom_good (a b : Atm) (ha : a.a.length ≤ 1000000) : Good Tryz.prog 99 [.agg a.c, .agg b.c] [] [.bool (decide (a = b))] [] := by
  obtain ⟨na, a⟩ := a
  obtain ⟨nb, b⟩ := b
  dsimp only at ha
  refine good_of hP Tryz.func99 (by kernel_rfl) (lv := [0, 1, 2, 3, 4, 5, 19, 24, 37]) (js := []) ⟨rfl, rfl, rfl, rfl, rfl, rfl, _, rfl, ?_⟩
  conv => whnf
  refine branch_of (fun h => ?_) (fun h => ?_)
  · rw [Bool.not_eq_true'] at h
    have h : ¬ na = nb := of_decide_eq_false h
    conv => whnf
    exact fin0 (by rw [decide_eq_false (by intro e; injection e with e _; exact h e)]) trivial
  rw [Bool.not_eq_false'] at h
  have hnm : na = nb := of_decide_eq_true h
  conv => whnf
  refine branch_of (fun h => ?_) (fun h => ?_)
  · rw [Bool.not_eq_true'] at h
    have h := of_decide_eq_false h
    rw [List.length_map, List.length_map] at h
    conv => whnf
    exact fin0 (by rw [decide_eq_false (by intro e; injection e with _ e; subst e; exact h rfl)]) trivial
  rw [Bool.not_eq_false'] at h
  have h := of_decide_eq_true h
  rw [List.length_map, List.length_map] at h
  have hl : a.length = b.length := by dsimp only at h; omega
  conv => whnf
  refine loop_of hP [0, 1, 2, 3, 4, 5, 19, 24, 37] [] [2, 3, 5] [66, 67] [] (fun n st => ∃ k : Nat, n = a.length - k ∧ k ≤ a.length ∧ (∀ j (h1 : j < a.length) (h2 : j < b.length), j < k → a[j] = b[j]) ∧ st = ⟨[(2, .ptr 66 0 0), (3, .ptr 67 0 0), (5, .int .i64 k)], [(66, .box 0 [.str na, .sl 4 (trmV a)]), (67, .box 0 [.str nb, .sl 4 (trmV b)])]⟩) a.length ?_ ?_
  · conv => whnf
    exact ⟨0, rfl, Nat.zero_le _, fun j _ _ h => by omega, rfl⟩
  · rintro n st ⟨k, rfl, hk, hn, rfl⟩
    conv => whnf
    refine branch_of (fun h => ?_) (fun h => ?_)
    · have h := of_decide_eq_true h
      rw [List.length_map] at h
      have hk' : k < a.length := by omega
      have hk2 : k < b.length := by omega
      conv => whnf
      refine ⟨Trm.c a[k], idxM hk' rfl, ?_⟩
      conv => whnf
      refine ⟨Trm.c b[k], idxM hk2 rfl, ?_⟩
      conv => whnf
      refine ⟨_, (eqTrm a[k] b[k]).2, ?_⟩
      conv => whnf
      refine ⟨by kernel_rfl, ?_⟩
      conv => whnf
      refine branch_of (fun h2 => ?_) (fun h2 => ?_)
      · rw [Bool.not_eq_true'] at h2
        have h2 := of_decide_eq_false h2
        conv => whnf
        exact fin0 (by rw [decide_eq_false (by intro e; injection e with _ e; subst e; exact h2 rfl)]) trivial
      · rw [Bool.not_eq_false'] at h2
        have h2 := of_decide_eq_true h2
        conv => whnf
        refine ⟨a.length - (k + 1), by omega, k + 1, rfl, by omega, fun j h1 h3 hj => ?_, ?_⟩
        · by_cases e : j = k
          · subst e; exact h2
          · exact hn j h1 h3 (by omega)
        · rw [wr (by omega) (by omega)]; rfl
    · have h := of_decide_eq_false h
      rw [List.length_map] at h
      conv => whnf
      exact fin0 (by rw [decide_eq_true (by rw [hnm, list_eq_of hl fun j h1 h2 => hn j h1 h2 (by omega)])]) trivial
/-! what is played -/
def trmH (t : Trm) : Bool := decide (200 < t.v.length) || decide (200 < t.x.s.length)
def atmH (a : Atm) : Bool := decide (200 < a.n.length) || decide (20 < a.a.length) || a.a.any trmH
def stpH (o : Stp) : Bool := decide (200 < o.v.length) || decide (200 < o.x.s.length)
def opsH (l : List Stp) : Bool := decide (40 < l.length) || l.any stpH
def tokH (t : Tok) : Bool := decide (200 < t.t.length)
def toksH (l : List Tok) : Bool := decide (300 < l.length) || l.any tokH
theorem anyL_step {α : Type} {p : α → Bool} {l : List α} {k : Nat} (h : k < l.length) : (l.drop k).any p = (p l[k] || (l.drop (k + 1)).any p) := by
  rw [List.drop_eq_getElem_cons h]; rfl
theorem anyL_end {α : Type} {p : α → Bool} {l : List α} {k : Nat} (h : l.length ≤ k) : (l.drop k).any p = false := by
  rw [List.drop_eq_nil_iff.2 h]; rfl
theorem heavyA_good (a : Atm) : Good Tryz.prog 33 [.agg a.c] [] [.bool (atmH a)] [] := by
  obtain ⟨na, a⟩ := a
  refine good_of hP Tryz.func33 (by kernel_rfl) (lv := [0, 1, 2, 3, 13, 18, 39]) (js := []) ⟨rfl, rfl, rfl, rfl, rfl, rfl, _, rfl, ?_⟩
  unfold atmH
  dsimp only
  conv => whnf
  refine branch_of (fun h => ?_) (fun h => ?_)
  · have h : 200 < na.length := by have := of_decide_eq_true h; dsimp only at this; omega
    conv => whnf
    exact fin0 (by simp [h]) trivial
  have h1 : ¬ 200 < na.length := by have := of_decide_eq_false h; dsimp only at this; omega
  rw [decide_eq_false h1]
  conv => whnf
  refine branch_of (fun h => ?_) (fun h => ?_)
  · have h := of_decide_eq_true h
    rw [List.length_map] at h
    have h : 20 < a.length := by dsimp only at h; omega
    conv => whnf
    exact fin0 (by simp [h]) trivial
  have h := of_decide_eq_false h
  rw [List.length_map] at h
  have h2 : ¬ 20 < a.length := by dsimp only at h; omega
  rw [decide_eq_false h2]
  conv => whnf
  refine loop_of hP [0, 1, 2, 3, 13, 18, 39] [] [1, 3] [65] [] (fun n st => ∃ k : Nat, n = a.length - k ∧ k ≤ a.length ∧ a.any trmH = (a.drop k).any trmH ∧ st = ⟨[(1, .ptr 65 0 0), (3, .int .i64 k)], [(65, .box 0 [.str na, .sl 4 (trmV a)])]⟩) a.length ?_ ?_
  · conv => whnf
    exact ⟨0, rfl, Nat.zero_le _, rfl, rfl⟩
  · rintro n st ⟨k, rfl, hk, he, rfl⟩
    conv => whnf
    refine branch_of (fun h => ?_) (fun h => ?_)
    · have h := of_decide_eq_true h
      rw [List.length_map] at h
      have hk' : k < a.length := by omega
      rw [anyL_step hk'] at he
      conv => whnf
      refine ⟨Trm.c a[k], idxM hk' rfl, ?_⟩
      conv => whnf
      refine branch_of (fun h3 => ?_) (fun h3 => ?_)
      · have h3 : 200 < a[k].v.length := by have := of_decide_eq_true h3; omega
        conv => whnf
        exact fin0 (by rw [he, trmH]; simp [h3]) trivial
      have h3 : ¬ 200 < a[k].v.length := by have := of_decide_eq_false h3; omega
      conv => whnf
      refine ⟨Trm.c a[k], idxM hk' rfl, ?_⟩
      conv => whnf
      refine branch_of (fun h4 => ?_) (fun h4 => ?_)
      · have h4 : 200 < a[k].x.s.length := by have := of_decide_eq_true h4; omega
        conv => whnf
        exact fin0 (by rw [he, trmH]; simp [h4]) trivial
      have h4 : ¬ 200 < a[k].x.s.length := by have := of_decide_eq_false h4; omega
      rw [trmH, decide_eq_false h3, decide_eq_false h4] at he
      conv => whnf
      refine ⟨a.length - (k + 1), by omega, k + 1, rfl, by omega, by simpa using he, ?_⟩
      rw [wr (by omega) (by omega)]; rfl
    · have h := of_decide_eq_false h
      rw [List.length_map] at h
      conv => whnf
      exact fin0 (by rw [he, anyL_end (by omega)]; rfl) trivial
theorem heavyX_good (l : List Stp) : Good Tryz.prog 106 [.sl 5 (stpV l)] [] [.bool (opsH l)] [] := by
  refine good_of hP Tryz.func106 (by kernel_rfl) (lv := [0, 2, 3, 6, 10, 29]) (js := []) ⟨rfl, rfl, rfl, rfl, rfl, rfl, _, rfl, ?_⟩
  unfold opsH
  conv => whnf
  refine branch_of (fun h => ?_) (fun h => ?_)
  · have h := of_decide_eq_true h
    rw [List.length_map] at h
    have h : 40 < l.length := by omega
    conv => whnf
    exact fin0 (by simp [h]) trivial
  have h := of_decide_eq_false h
  rw [List.length_map] at h
  have h2 : ¬ 40 < l.length := by omega
  rw [decide_eq_false h2]
  conv => whnf
  refine loop_of hP [0, 2, 3, 6, 10, 29] [] [0, 3] [] [] (fun n st => ∃ k : Nat, n = l.length - k ∧ k ≤ l.length ∧ l.any stpH = (l.drop k).any stpH ∧ st = ⟨[(0, .sl 5 (stpV l)), (3, .int .i64 k)], []⟩) l.length ?_ ?_
  · conv => whnf
    exact ⟨0, rfl, Nat.zero_le _, rfl, rfl⟩
  · rintro n st ⟨k, rfl, hk, he, rfl⟩
    conv => whnf
    refine branch_of (fun h => ?_) (fun h => ?_)
    · have h := of_decide_eq_true h
      rw [List.length_map] at h
      have hk' : k < l.length := by omega
      rw [anyL_step hk'] at he
      conv => whnf
      refine ⟨Stp.c l[k], idxM hk' rfl, ?_⟩
      conv => whnf
      refine branch_of (fun h3 => ?_) (fun h3 => ?_)
      · have h3 : 200 < l[k].v.length := by have := of_decide_eq_true h3; omega
        conv => whnf
        exact fin0 (by rw [he, stpH]; simp [h3]) trivial
      have h3 : ¬ 200 < l[k].v.length := by have := of_decide_eq_false h3; omega
      conv => whnf
      refine ⟨Stp.c l[k], idxM hk' rfl, ?_⟩
      conv => whnf
      refine branch_of (fun h4 => ?_) (fun h4 => ?_)
      · have h4 : 200 < l[k].x.s.length := by have := of_decide_eq_true h4; omega
        conv => whnf
        exact fin0 (by rw [he, stpH]; simp [h4]) trivial
      have h4 : ¬ 200 < l[k].x.s.length := by have := of_decide_eq_false h4; omega
      rw [stpH, decide_eq_false h3, decide_eq_false h4] at he
      conv => whnf
      refine ⟨l.length - (k + 1), by omega, k + 1, rfl, by omega, by simpa using he, ?_⟩
      rw [wr (by omega) (by omega)]; rfl
    · have h := of_decide_eq_false h
      rw [List.length_map] at h
      conv => whnf
      exact fin0 (by rw [he, anyL_end (by omega)]; rfl) trivial
theorem heavyT_good (l : List Tok) : Good Tryz.prog 36 [.sl 4 (toksV l)] [] [.bool (toksH l)] [] := by
  refine good_of hP Tryz.func36 (by kernel_rfl) (lv := [0, 2, 3, 6, 10, 19]) (js := []) ⟨rfl, rfl, rfl, rfl, rfl, rfl, _, rfl, ?_⟩
  unfold toksH
  conv => whnf
  refine branch_of (fun h => ?_) (fun h => ?_)
  · have h := of_decide_eq_true h
    rw [List.length_map] at h
    have h : 300 < l.length := by omega
    conv => whnf
    exact fin0 (by simp [h]) trivial
  have h := of_decide_eq_false h
  rw [List.length_map] at h
  have h2 : ¬ 300 < l.length := by omega
  rw [decide_eq_false h2]
  conv => whnf
  refine loop_of hP [0, 2, 3, 6, 10, 19] [] [0, 3] [] [] (fun n st => ∃ k : Nat, n = l.length - k ∧ k ≤ l.length ∧ l.any tokH = (l.drop k).any tokH ∧ st = ⟨[(0, .sl 4 (toksV l)), (3, .int .i64 k)], []⟩) l.length ?_ ?_
  · conv => whnf
    exact ⟨0, rfl, Nat.zero_le _, rfl, rfl⟩
  · rintro n st ⟨k, rfl, hk, he, rfl⟩
    conv => whnf
    refine branch_of (fun h => ?_) (fun h => ?_)
    · have h := of_decide_eq_true h
      rw [List.length_map] at h
      have hk' : k < l.length := by omega
      rw [anyL_step hk'] at he
      conv => whnf
      refine ⟨Tok.c l[k], idxM hk' rfl, ?_⟩
      conv => whnf
      refine branch_of (fun h3 => ?_) (fun h3 => ?_)
      · have h3 : 200 < l[k].t.length := by have := of_decide_eq_true h3; omega
        conv => whnf
        exact fin0 (by rw [he, tokH]; simp [h3]) trivial
      have h3 : ¬ 200 < l[k].t.length := by have := of_decide_eq_false h3; omega
      rw [tokH, decide_eq_false h3] at he
      conv => whnf
      refine ⟨l.length - (k + 1), by omega, k + 1, rfl, by omega, by simpa using he, ?_⟩
      rw [wr (by omega) (by omega)]; rfl
    · have h := of_decide_eq_false h
      rw [List.length_map] at h
      conv => whnf
      exact fin0 (by rw [he, anyL_end (by omega)]; rfl) trivial
end Go.PV
namespace Go.PV
open Go Go.Proofs
set_option maxRecDepth 100000
theorem pushes_good (k : Int) : Good Tryz.prog 228 [.int .i64 k] [] [.bool (decide (k = 1 ∨ k = 2))] [] := by
  refine good_of hP Tryz.func228 (by kernel_rfl) (lv := [0, 2]) (js := []) ⟨rfl, rfl, rfl, rfl, rfl, rfl, _, rfl, ?_⟩
  conv => whnf
  refine branch_of (fun h => ?_) (fun h => ?_)
  · have h := of_decide_eq_true h
    conv => whnf
    exact fin0 (by simp [h]) trivial
  · have h := of_decide_eq_false h
    conv => whnf
    exact fin0 (by simp [h]) trivial
def stpB (o : Stp) : Prop := o.v.length ≤ 1000000 ∧ o.x.s.length ≤ 1000000
def opsB (l : List Stp) : Prop := l.length ≤ 1000000 ∧ ∀ o ∈ l, stpB o
theorem xright_good (o : Stp) (hb : stpB o) : Good Tryz.prog 227 [.agg o.c] [] [.bool (stpOk o)] [] := by
  obtain ⟨k, v, x⟩ := o
  obtain ⟨h1, h2⟩ := hb
  dsimp only at h1 h2
  refine good_of hP Tryz.func227 (by kernel_rfl) (lv := [0, 1, 2, 4, 5, 16, 27]) (js := [27]) ⟨rfl, rfl, rfl, rfl, rfl, rfl, _, rfl, ?_⟩
  unfold stpOk
  dsimp only
  conv => whnf
  refine branch_of (fun h => ?_) (fun h => ?_)
  · have h : k = 1 := of_decide_eq_true h
    rw [if_pos h]
    conv => whnf
    refine call0 (svar_good v h1) ?_
    cases varS v with
    | false =>
      conv => whnf
      exact fin0 rfl trivial
    | true =>
      conv => whnf
      refine ⟨_, (eqVal x zeroV).1, ?_⟩
      conv => whnf
      exact fin0 rfl trivial
  have h : ¬ k = 1 := of_decide_eq_false h
  rw [if_neg h]
  conv => whnf
  refine branch_of (fun h3 => ?_) (fun h3 => ?_)
  · have h3 : k = 2 := of_decide_eq_true h3
    rw [if_pos h3]
    conv => whnf
    refine branch_of (fun h4 => ?_) (fun h4 => ?_)
    · rw [h4]
      conv => whnf
      refine call0 (check_good x (by omega)) ?_
      cases checkS x with
      | false =>
        conv => whnf
        exact fin0 rfl trivial
      | true =>
        conv => whnf
        exact fin0 rfl trivial
    · rw [h4]
      conv => whnf
      exact fin0 rfl trivial
  have h3 : ¬ k = 2 := of_decide_eq_false h3
  rw [if_neg h3]
  conv => whnf
  refine seq_of hP [0, 1, 2, 4, 5, 16, 27] [27] [1, 27] [65] [] (fun st => st = ⟨[(1, .ptr 65 0 0), (27, .bool (decide (k = 3 ∨ k = 4 ∨ k = 5)))], [(65, .box 0 (Stp.c ⟨k, v, x⟩))]⟩) ?_ ?_
  · conv => whnf
    refine branch_of (fun g4 => ?_) (fun g4 => ?_)
    · have h4 : k = 3 := of_decide_eq_true g4
      conv => whnf
      have e : decide (k = 3 ∨ k = 4 ∨ k = 5) = true := by rw [decide_eq_true_iff]; omega
      rw [e, g4]
    have h4 : ¬ k = 3 := of_decide_eq_false g4
    conv => whnf
    refine branch_of (fun g5 => ?_) (fun g5 => ?_)
    · have h5 : k = 4 := of_decide_eq_true g5
      conv => whnf
      have e : decide (k = 3 ∨ k = 4 ∨ k = 5) = true := by rw [decide_eq_true_iff]; omega
      rw [e, g5]
    have h5 : ¬ k = 4 := of_decide_eq_false g5
    conv => whnf
    have e : decide (k = 3 ∨ k = 4 ∨ k = 5) = decide (k = 5) := by rw [decide_eq_decide]; omega
    rw [e]
  rintro st rfl
  by_cases h6 : k = 3 ∨ k = 4 ∨ k = 5
  · rw [if_pos h6, decide_eq_true h6]
    conv => whnf
    refine branch_of (fun h4 => ?_) (fun h4 => ?_)
    · rw [h4]
      conv => whnf
      refine ⟨_, (eqVal x zeroV).1, ?_⟩
      conv => whnf
      exact fin0 rfl trivial
    · rw [h4]
      conv => whnf
      exact fin0 rfl trivial
  · rw [if_neg h6, decide_eq_false h6]
    conv => whnf
    exact fin0 rfl trivial
theorem xcheck_good (l : List Stp) (hb : opsB l) : Good Tryz.prog 191 [.sl 5 (stpV l)] [] [.int .i64 (if exprOk l then 0 else 1)] [] := by
  obtain ⟨hl, ho⟩ := hb
  refine good_of hP Tryz.func191 (by kernel_rfl) (lv := [0, 2, 3, 5, 13, 14, 15, 16, 17, 32, 35, 42]) (js := []) ⟨rfl, rfl, rfl, rfl, rfl, rfl, _, rfl, ?_⟩
  conv => whnf
  refine branch_of (fun h => ?_) (fun h => ?_)
  · have h := of_decide_eq_true h
    rw [List.length_map] at h
    conv => whnf
    exact fin0 (by simp [exprOk]; omega) trivial
  have h := of_decide_eq_false h
  rw [List.length_map] at h
  conv => whnf
  refine branch_of (fun h2 => ?_) (fun h2 => ?_)
  · have h2 := of_decide_eq_true h2
    rw [List.length_map] at h2
    conv => whnf
    exact fin0 (by simp [exprOk]; omega) trivial
  have h2 := of_decide_eq_false h2
  rw [List.length_map] at h2
  have e : exprOk l = decide (depGo 0 l = some 1) := by
    have : decide (1 ≤ l.length ∧ l.length ≤ 15) = true := by simp; omega
    rw [exprOk, this, Bool.true_and]
  rw [e]
  conv => whnf
  refine loop_of hP [0, 2, 3, 5, 13, 14, 15, 16, 17, 32, 35, 42] [] [3, 14, 15, 16] [] [] (fun n st => ∃ k d : Nat, n = l.length - k ∧ k ≤ l.length ∧ d ≤ k ∧ depGo 0 l = depGo d (l.drop k) ∧ st = ⟨[(3, .int .i64 d), (14, .sl 5 (stpV l)), (15, .int .i64 l.length), (16, .int .i64 k)], []⟩) l.length ?_ ?_
  · conv => whnf
    exact ⟨0, 0, rfl, Nat.zero_le _, Nat.le_refl _, rfl, by rw [← List.length_map (f := Stp.c)]; rfl⟩
  · rintro n st ⟨k, d, rfl, hk, hd, he, rfl⟩
    conv => whnf
    refine branch_of (fun h3 => ?_) (fun h3 => ?_)
    · have h3 := of_decide_eq_true h3
      have hk' : k < l.length := by omega
      rw [List.drop_eq_getElem_cons hk', depGo] at he
      conv => whnf
      refine ⟨Stp.c l[k], idxM hk' rfl, ?_⟩
      conv => whnf
      refine call0 (xright_good l[k] (ho _ (List.getElem_mem hk'))) ?_
      cases hs : stpOk l[k] with
      | false =>
        rw [hs, if_neg (by simp)] at he
        conv => whnf
        exact fin0 (by rw [he]; rfl) trivial
      | true =>
        have h5 := stpOk_k hs
        rw [hs, if_pos rfl] at he
        conv => whnf
        refine call0 (pushes_good l[k].k) ?_
        by_cases hp : l[k].k = 1 ∨ l[k].k = 2
        · rw [decide_eq_true hp]
          rw [if_pos (by omega)] at he
          conv => whnf
          refine call0 (pushes_good l[k].k) ?_
          rw [decide_eq_true hp]
          conv => whnf
          refine ⟨l.length - (k + 1), by omega, k + 1, d + 1, rfl, by omega, by omega, he, ?_⟩
          rw [wr (by omega) (by omega), wr (by omega) (by omega)]; rfl
        · rw [decide_eq_false hp]
          rw [if_neg (by omega)] at he
          conv => whnf
          refine branch_of (fun h6 => ?_) (fun h6 => ?_)
          · have h6 := of_decide_eq_true h6
            rw [if_pos (by omega)] at he
            conv => whnf
            exact fin0 (by rw [he]; rfl) trivial
          · have h6 := of_decide_eq_false h6
            rw [if_neg (by omega)] at he
            conv => whnf
            refine call0 (pushes_good l[k].k) ?_
            rw [decide_eq_false hp]
            conv => whnf
            refine ⟨l.length - (k + 1), by omega, k + 1, d - 1, rfl, by omega, by omega, he, ?_⟩
            rw [wr (by omega) (by omega), wr (by omega) (by omega)]
            have e1 : (d : Int) - 1 = (d - 1 : Nat) := by omega
            rw [e1]; rfl
    · have h3 := of_decide_eq_false h3
      have hd2 : l.drop k = [] := List.drop_eq_nil_iff.2 (by omega)
      rw [hd2, depGo] at he
      rw [he]
      conv => whnf
      refine branch_of (fun h4 => ?_) (fun h4 => ?_)
      · rw [Bool.not_eq_true'] at h4
        have h4 := of_decide_eq_false h4
        conv => whnf
        exact fin0 (by simp; omega) trivial
      · rw [Bool.not_eq_false'] at h4
        have h4 := of_decide_eq_true h4
        conv => whnf
        exact fin0 (by simp; omega) trivial
theorem how_good (k : Int) (h : k = 3 ∨ k = 4 ∨ k = 5) : Good Tryz.prog 219 [.int .i64 k] [] [.str (opT k)] [] := by
  rcases h with rfl | rfl | rfl
  · refine good_of hP Tryz.func219 (by kernel_rfl) (lv := [0, 2]) (js := []) ⟨rfl, rfl, rfl, rfl, rfl, rfl, _, rfl, ?_⟩
    conv => whnf
    refine ⟨⟨⟩, by decide, ?_⟩
    conv => whnf
    refine ⟨_, rfl, ?_⟩
    conv => whnf
    exact fin0 rfl trivial
  · refine good_of hP Tryz.func219 (by kernel_rfl) (lv := [0, 2]) (js := []) ⟨rfl, rfl, rfl, rfl, rfl, rfl, _, rfl, ?_⟩
    conv => whnf
    refine ⟨⟨⟩, by decide, ?_⟩
    conv => whnf
    refine ⟨_, rfl, ?_⟩
    conv => whnf
    exact fin0 rfl trivial
  · refine good_of hP Tryz.func219 (by kernel_rfl) (lv := [0, 2]) (js := []) ⟨rfl, rfl, rfl, rfl, rfl, rfl, _, rfl, ?_⟩
    conv => whnf
    refine ⟨⟨⟩, by decide, ?_⟩
    conv => whnf
    refine ⟨_, rfl, ?_⟩
    conv => whnf
    exact fin0 rfl trivial
theorem term_good (t : Trm) (h : trmB t) : Good Tryz.prog 148 [.agg t.c] [] [.str (termT t)] [] := by
  obtain ⟨v, x⟩ := t
  refine good_of hP Tryz.func148 (by kernel_rfl) (lv := [0, 1, 2, 3, 7]) (js := []) ⟨rfl, rfl, rfl, rfl, rfl, rfl, _, rfl, ?_⟩
  unfold termT
  dsimp only
  conv => whnf
  refine branch_of (fun h1 => ?_) (fun h1 => ?_)
  · rw [Bool.not_eq_true'] at h1
    have h1 : ¬ v = [] := of_decide_eq_false h1
    rw [if_neg h1]
    conv => whnf
    exact fin0 rfl trivial
  · rw [Bool.not_eq_false'] at h1
    have h1 : v = [] := of_decide_eq_true h1
    rw [if_pos h1]
    conv => whnf
    refine call0 (text_good x h.2) ?_
    conv => whnf
    exact fin0 rfl trivial
end Go.PV
namespace Go.PV
open Go Go.Proofs
set_option maxRecDepth 100000
def recS : List Bs := [[43], [45], [42]]
theorem reckons_good (r : Rd) (hl : r.l.length ≤ 1000000) : Good Tryz.prog 265 [.ptr 0 0 0] [r.ob] [.int .i64 r.reckons.1] [r.reckons.2.ob] := by
  refine good_of hP Tryz.func265 (by kernel_rfl) (lv := [0, 2, 3, 4, 5, 6, 7, 8, 14, 19]) (js := []) ⟨rfl, rfl, rfl, rfl, rfl, rfl, _, rfl, ?_⟩
  conv => whnf
  refine loop_of hP [0, 2, 3, 4, 5, 6, 7, 8, 14, 19] [] [0, 5, 6, 7] [69] [] (fun n st => ∃ k : Nat, n = 3 - k ∧ k ≤ 3 ∧ (∀ j (h : j < recS.length), j < k → r.see 5 recS[j] = false) ∧ st = ⟨[(0, .ptr 0 0 0), (5, .own 69 0), (6, .int .i64 3), (7, .int .i64 k)], [(0, r.ob), (69, .arr 0 false 1 (strV recS))]⟩) 3 ?_ ?_
  · conv => whnf
    exact ⟨0, rfl, by omega, fun j _ h => by omega, rfl⟩
  · rintro n st ⟨k, rfl, hk, hn, rfl⟩
    conv => whnf
    refine branch_of (fun h => ?_) (fun h => ?_)
    · have h := of_decide_eq_true h
      have hk' : k < recS.length := by simp [recS]; omega
      conv => whnf
      refine ⟨⟨⟩, idxB (f := fun x => [V.str x]) hk' rfl, ?_⟩
      conv => whnf
      refine ⟨[.str recS[k]], (idxM (f := fun x => [V.str x]) hk' rfl).2, ?_⟩
      conv => whnf
      refine callN [(0, 0)] (rsign_good' r recS[k] hl) ?_ 
      conv => whnf
      refine ⟨⟨⟩, rfl, ?_⟩
      unfold Rd.word
      cases hs : r.see 5 recS[k] with
      | true =>
        have e : r.reckons = ((3 + k : Int), r.step) := by
          unfold Rd.reckons
          have h3 : k = 0 ∨ k = 1 ∨ k = 2 := by omega
          rcases h3 with rfl | rfl | rfl
          · have hs : r.see 5 [43] = true := hs
            rw [if_pos hs]; rfl
          · have hs : r.see 5 [45] = true := hs
            have h0 : r.see 5 [43] = false := hn 0 (by decide) (by omega)
            rw [h0, if_neg (by simp), if_pos hs]; rfl
          · have hs : r.see 5 [42] = true := hs
            have h0 : r.see 5 [43] = false := hn 0 (by decide) (by omega)
            have h1 : r.see 5 [45] = false := hn 1 (by decide) (by omega)
            rw [h0, if_neg (by simp), h1, if_neg (by simp), if_pos hs]; rfl
        rw [if_pos rfl, e]
        conv => whnf
        refine ⟨[], by rw [wr (by omega) (by omega)]; rfl, ?_⟩
        conv => whnf
        exact ⟨⟨⟩, rfl, trivial⟩
      | false =>
        rw [if_neg (by simp)]
        conv => whnf
        refine ⟨3 - (k + 1), by omega, k + 1, rfl, by omega, fun j hj hjk => ?_, ?_⟩
        · by_cases e : j = k
          · subst e; exact hs
          · exact hn j hj (by omega)
        · rw [wr (by omega) (by omega)]; rfl
    · have h := of_decide_eq_false h
      have h0 : r.see 5 [43] = false := hn 0 (by decide) (by omega)
      have h1 : r.see 5 [45] = false := hn 1 (by decide) (by omega)
      have h2 : r.see 5 [42] = false := hn 2 (by decide) (by omega)
      have e : r.reckons = (0, if r.isOpen then r.fail else r) := by
        unfold Rd.reckons; rw [h0, h1, h2]; rfl
      rw [e]
      conv => whnf
      refine callN [(0, 0)] (open_good r) ?_ 
      conv => whnf
      refine ⟨⟨⟩, rfl, ?_⟩
      cases r.isOpen with
      | true =>
        rw [if_pos rfl]
        conv => whnf
        refine ⟨[], rfl, ?_⟩
        conv => whnf
        exact ⟨⟨⟩, rfl, trivial⟩
      | false =>
        rw [if_neg (by simp)]
        conv => whnf
        refine ⟨[], rfl, ?_⟩
        conv => whnf
        exact ⟨⟨⟩, rfl, trivial⟩
theorem rpart_leaf (n : Nat) (r : Rd) (h : r.see 5 [40] = false) : r.part n = ([⟨if r.term.1.v = [] then 2 else 1, r.term.1.v, r.term.1.x⟩], r.term.2) := by
  cases n <;> (unfold Rd.part; rw [h]; rfl)
theorem rpart_leaf_good (n : Nat) (r : Rd) (d : Nat) (hb : tokB r.l) (hs : r.see 5 [40] = false) : Good Tryz.prog 250 [.ptr 0 0 0, .int .i64 d] [r.ob] [.own 1 0] [(r.part n).2.ob, .arr 0 false 5 (stpV (r.part n).1)] := by
  obtain ⟨hl, ht⟩ := hb
  refine good_of hP Tryz.func250 (by kernel_rfl) (lv := [0, 1, 4, 5, 6, 7, 8, 11, 16, 25, 37]) (js := []) ⟨rfl, rfl, rfl, rfl, rfl, rfl, _, rfl, ?_⟩
  conv => whnf
  refine callN [(0, 0)] (rsign_good' r [40] hl) ?_ 
  conv => whnf
  refine ⟨⟨⟩, rfl, ?_⟩
  unfold Rd.word
  rw [hs, if_neg (by simp), rpart_leaf n r hs]
  conv => whnf
  refine callN [(0, 0)] (rterm_good r hl ht) ?_ 
  conv => whnf
  refine ⟨⟨⟩, rfl, ?_⟩
  generalize r.term = x
  conv => whnf
  refine branch_of (fun h => ?_) (fun h => ?_)
  · rw [Bool.not_eq_true'] at h
    have h : ¬ x.1.v = [] := of_decide_eq_false h
    rw [if_neg h]
    conv => whnf
    refine ⟨[(87, 0)], rfl, ?_⟩
    conv => whnf
    refine ⟨⟨⟩, rfl, ?_⟩
    conv => whnf
    exact ⟨⟨⟩, rfl, trivial⟩
  · rw [Bool.not_eq_false'] at h
    have h : x.1.v = [] := of_decide_eq_true h
    rw [if_pos h]
    conv => whnf
    refine ⟨[(87, 0)], rfl, ?_⟩
    conv => whnf
    refine ⟨⟨⟩, rfl, ?_⟩
    conv => whnf
    exact ⟨⟨⟩, rfl, trivial⟩
theorem rpart_good (n : Nat) : ∀ (r : Rd) (d : Nat), tokB r.l → d + n = 15 → Good Tryz.prog 250 [.ptr 0 0 0, .int .i64 d] [r.ob] [.own 1 0] [(r.part n).2.ob, .arr 0 false 5 (stpV (r.part n).1)] := by
  induction n with
  | zero =>
    rintro r d ⟨hl, ht⟩ hd
    cases hs : r.see 5 [40] with
    | false => exact rpart_leaf_good 0 r d ⟨hl, ht⟩ hs
    | true =>
      refine good_of hP Tryz.func250 (by kernel_rfl) (lv := [0, 1, 4, 5, 6, 7, 8, 11, 16, 25, 37]) (js := []) ⟨rfl, rfl, rfl, rfl, rfl, rfl, _, rfl, ?_⟩
      conv => whnf
      refine callN [(0, 0)] (rsign_good' r [40] hl) ?_ 
      conv => whnf
      refine ⟨⟨⟩, rfl, ?_⟩
      unfold Rd.word
      have e : r.part 0 = ([], { r.step with over := true }) := by unfold Rd.part; rw [if_pos hs]
      rw [hs, if_pos rfl, e]
      conv => whnf
      refine branch_of (fun h => ?_) (fun h => ?_)
      · conv => whnf
        refine ⟨[(200001, 0)], rfl, ?_⟩
        conv => whnf
        refine ⟨⟨⟩, rfl, ?_⟩
        conv => whnf
        exact ⟨⟨⟩, rfl, trivial⟩
      · exact absurd (of_decide_eq_false h) (by omega)
  | succ n ih =>
    rintro r d ⟨hl, ht⟩ hd
    cases hs : r.see 5 [40] with
    | false => exact rpart_leaf_good (n + 1) r d ⟨hl, ht⟩ hs
    | true =>
      refine good_of hP Tryz.func250 (by kernel_rfl) (lv := [0, 1, 4, 5, 6, 7, 8, 11, 16, 25, 37]) (js := []) ⟨rfl, rfl, rfl, rfl, rfl, rfl, _, rfl, ?_⟩
      conv => whnf
      refine callN [(0, 0)] (rsign_good' r [40] hl) ?_ 
      conv => whnf
      refine ⟨⟨⟩, rfl, ?_⟩
      unfold Rd.word
      rw [hs, if_pos rfl]
      conv => whnf
      refine branch_of (fun h => ?_) (fun h => ?_)
      · exact absurd (of_decide_eq_true h) (by omega)
      have hw : IntKind.i64.wrap ((d : Int) + 1) = (d + 1 : Nat) := by rw [wr (by omega) (by omega)]; rfl
      have hr1 := Rd.part_l n r.step
      have hr2 := Rd.reckons_l (r.step.part n).2
      have hr3 := Rd.part_l n (r.step.part n).2.reckons.2
      have hn1 := Rd.part_len n r.step
      have hn2 := Rd.part_len n (r.step.part n).2.reckons.2
      have hp : 2 ^ (n + 1) ≤ 2 ^ 15 := Nat.pow_le_pow_right (by omega) (by omega)
      have hp2 : (2 : Nat) ^ 15 = 32768 := by decide
      conv => whnf
      rw [hw]
      refine callN [(0, 0)] (ih r.step (d + 1) ⟨hl, ht⟩ (by omega)) ?_ 
      conv => whnf
      refine ⟨⟨⟩, rfl, ?_⟩
      conv => whnf
      refine callN [(0, 0)] (reckons_good (r.step.part n).2 (by rw [hr1.1]; exact hl)) ?_ 
      conv => whnf
      refine ⟨⟨⟩, rfl, ?_⟩
      conv => whnf
      refine callN [(0, 0)] (open_good (r.step.part n).2.reckons.2) ?_ 
      conv => whnf
      refine ⟨⟨⟩, rfl, ?_⟩
      cases ho : (r.step.part n).2.reckons.2.isOpen with
      | false =>
        have e : r.part (n + 1) = ([], (r.step.part n).2.reckons.2) := by
          rw [Rd.part, if_pos hs]; dsimp only; rw [ho]; rfl
        rw [e]
        conv => whnf
        refine ⟨[(200001, 0)], rfl, ?_⟩
        conv => whnf
        refine ⟨⟨⟩, rfl, ?_⟩
        conv => whnf
        exact ⟨⟨⟩, rfl, trivial⟩
      | true =>
        have e : r.part (n + 1) = ((r.step.part n).1 ++ ((r.step.part n).2.reckons.2.part n).1 ++ [⟨(r.step.part n).2.reckons.1, [], zeroV⟩], ((r.step.part n).2.reckons.2.part n).2.want 5 [41]) := by
          rw [Rd.part, if_pos hs]; dsimp only; rw [if_pos ho]
        rw [show (r.part (n + 1)).2 = ((r.step.part n).2.reckons.2.part n).2.want 5 [41] from by rw [e], show stpV (r.part (n + 1)).1 = (stpV (r.step.part n).1 ++ stpV ((r.step.part n).2.reckons.2.part n).1) ++ [Stp.c ⟨(r.step.part n).2.reckons.1, [], zeroV⟩] from by rw [e, stpV, List.map_append, List.map_append]; rfl]
        have hrl : (r.step.part n).2.reckons.2.l = r.l := hr2.1.trans hr1.1
        conv => whnf
        rw [hw]
        refine callN [(0, 0)] (ih (r.step.part n).2.reckons.2 (d + 1) ⟨by rw [hrl]; exact hl, by rw [hrl]; exact ht⟩ (by omega)) ?_ 
        conv => whnf
        refine ⟨⟨⟩, rfl, ?_⟩
        conv => whnf
        refine ⟨⟨⟩, by dsimp only; rw [List.length_map, List.length_map]; omega, ?_⟩
        conv => whnf
        refine callN [(0, 0)] (want_good ((r.step.part n).2.reckons.2.part n).2 [41] (by rw [hr3.1, hrl]; exact hl)) ?_ 
        conv => whnf
        refine ⟨⟨⟩, rfl, ?_⟩
        conv => whnf
        refine ⟨⟨⟩, by dsimp only; rw [List.length_append, List.length_map, List.length_map]; simp only [List.length_cons, List.length_nil]; omega, ?_⟩
        conv => whnf
        refine ⟨[(3072, 2)], rfl, ?_⟩
        conv => whnf
        refine ⟨⟨⟩, rfl, ?_⟩
        conv => whnf
        exact ⟨⟨⟩, rfl, trivial⟩
theorem rexpr_good (r : Rd) (hb : tokB r.l) : Good Tryz.prog 223 [.ptr 0 0 0] [r.ob] [.sl 5 (stpV r.expr.1)] [r.expr.2.ob] := by
  refine good_of hP Tryz.func223 (by kernel_rfl) (lv := [0, 2, 3, 6, 11]) (js := []) ⟨rfl, rfl, rfl, rfl, rfl, rfl, _, rfl, ?_⟩
  unfold Rd.expr
  conv => whnf
  refine callN [(0, 0)] (open_good r) ?_ 
  conv => whnf
  refine ⟨⟨⟩, rfl, ?_⟩
  cases ho : r.isOpen with
  | false =>
    rw [if_neg (by simp)]
    conv => whnf
    refine ⟨[], rfl, ?_⟩
    conv => whnf
    exact ⟨⟨⟩, rfl, trivial⟩
  | true =>
    rw [if_pos rfl]
    conv => whnf
    refine callN [(0, 0)] (rpart_good 15 r 0 hb rfl) ?_ 
    conv => whnf
    refine ⟨⟨⟩, rfl, ?_⟩
    generalize r.part 15 = x
    by_cases hx : 15 < x.1.length
    · dsimp only
      rw [if_pos hx]
      conv => whnf
      refine branch_of (fun h => ?_) (fun h => ?_)
      · conv => whnf
        refine ⟨[], rfl, ?_⟩
        conv => whnf
        exact ⟨⟨⟩, rfl, trivial⟩
      · have h := of_decide_eq_false h
        rw [List.length_map] at h; omega
    · dsimp only
      rw [if_neg hx]
      conv => whnf
      refine branch_of (fun h => ?_) (fun h => ?_)
      · have h := of_decide_eq_true h
        rw [List.length_map] at h; omega
      · conv => whnf
        refine ⟨[], rfl, ?_⟩
        conv => whnf
        exact ⟨⟨⟩, rfl, trivial⟩
/-- the stack's texts, as they lie -/
theorem exprText_good (l : List Stp) (hb : opsB l) : Good Tryz.prog 170 [.sl 5 (stpV l)] [] [.str (if exprOk l then exprT l else []), .int .i64 (if exprOk l then 0 else 1)] [] := by
  refine good_of hP Tryz.func170 (by kernel_rfl) (lv := [0, 2, 3, 4, 5, 7, 8, 9, 13, 15, 16, 17, 18, 28]) (js := []) ⟨rfl, rfl, rfl, rfl, rfl, rfl, _, rfl, ?_⟩
  conv => whnf
  refine call0 (xcheck_good l hb) ?_
  cases hk : exprOk l with
  | false =>
    conv => whnf
    exact fin0 rfl trivial
  | true =>
    rw [if_pos rfl, if_pos rfl]
    obtain ⟨hl, ho⟩ := hb
    have hk2 := hk
    unfold exprOk at hk
    simp only [Bool.and_eq_true, decide_eq_true_eq] at hk
    obtain ⟨⟨hl1, hl2⟩, hd⟩ := hk
    conv => whnf
    refine loop_of hP [0, 2, 3, 4, 5, 7, 8, 9, 13, 15, 16, 17, 18, 28] [] [5, 15, 16, 17] [69] [.slot 5 1] (fun n st => ∃ (k : Nat) (S : List Bs), n = l.length - k ∧ k ≤ l.length ∧ depGo 0 l = depGo S.length (l.drop k) ∧ xtGo [] l = xtGo S (l.drop k) ∧ (S.map List.length).sum ≤ 130 * k ∧ S.length ≤ k ∧ st = ⟨[(5, .own 69 0), (15, .sl 5 (stpV l)), (16, .int .i64 l.length), (17, .int .i64 k)], [(69, .arr 0 false 1 (strV S.reverse))]⟩) l.length ?_ ?_
    · conv => whnf
      exact ⟨0, [], rfl, Nat.zero_le _, rfl, rfl, Nat.le_refl _, Nat.le_refl _, by rw [← List.length_map (f := Stp.c)]; rfl⟩
    · rintro n st ⟨k, S, rfl, hkl, he, ht, hsum, hSl, rfl⟩
      conv => whnf
      refine branch_of (fun h1 => ?_) (fun h1 => ?_)
      · have h1 := of_decide_eq_true h1
        have hk' : k < l.length := by omega
        rw [List.drop_eq_getElem_cons hk', depGo] at he
        rw [List.drop_eq_getElem_cons hk'] at ht
        have hs : stpOk l[k] = true := by
          cases hs : stpOk l[k] with
          | true => rfl
          | false => rw [hs, if_neg (by simp), hd] at he; cases he
        rw [hs, if_pos rfl] at he
        have h5 := stpOk_k hs
        have hob := ho _ (List.getElem_mem hk')
        have ix := idxM (f := Stp.c) hk' (x := (k : Int)) rfl
        conv => whnf
        generalize l[k] = o at *
        refine ⟨Stp.c o, ix, ?_⟩
        have hw4 : IntKind.i64.wrap ((k : Int) + 1) = (k + 1 : Nat) := by rw [wr (by omega) (by omega)]; rfl
        have push : o.k ≤ 2 → xtGo [] l = xtGo (termT ⟨o.v, o.x⟩ :: S) (l.drop (k + 1)) ∧ depGo 0 l = depGo (S.length + 1) (l.drop (k + 1)) ∧ (termT ⟨o.v, o.x⟩).length ≤ 122 := fun h => by
          rw [if_pos h] at he
          rw [xt_push h] at ht
          exact ⟨ht, he, termT_len (stpOk_push hs h).1⟩
        have snoc : ∀ t : Bs, strV (t :: S).reverse = strV S.reverse ++ [[.str t]] := fun t => by rw [List.reverse_cons]; exact List.map_append
        conv => whnf
        refine branch_of (fun h2 => ?_) (fun h2 => ?_)
        · have h2 : o.k = 1 := of_decide_eq_true h2
          obtain ⟨p1, p2, p3⟩ := push (by omega)
          conv => whnf
          refine call0 (term_good ⟨o.v, o.x⟩ hob) ?_
          conv => whnf
          refine ⟨⟨⟩, by dsimp only; simp only [List.length_map, List.length_reverse, List.length_cons, List.length_nil]; omega, ?_⟩
          conv => whnf
          refine ⟨l.length - (k + 1), by omega, k + 1, termT ⟨o.v, o.x⟩ :: S, rfl, by omega, p2, p1, by simp only [List.map_cons, List.sum_cons]; omega, by simp; omega, ?_⟩
          rw [hw4, snoc]
        have h2 : ¬ o.k = 1 := of_decide_eq_false h2
        conv => whnf
        refine branch_of (fun h3 => ?_) (fun h3 => ?_)
        · have h3 : o.k = 2 := of_decide_eq_true h3
          obtain ⟨p1, p2, p3⟩ := push (by omega)
          conv => whnf
          refine call0 (term_good ⟨o.v, o.x⟩ hob) ?_
          conv => whnf
          refine ⟨⟨⟩, by dsimp only; simp only [List.length_map, List.length_reverse, List.length_cons, List.length_nil]; omega, ?_⟩
          conv => whnf
          refine ⟨l.length - (k + 1), by omega, k + 1, termT ⟨o.v, o.x⟩ :: S, rfl, by omega, p2, p1, by simp only [List.map_cons, List.sum_cons]; omega, by simp; omega, ?_⟩
          rw [hw4, snoc]
        have h3 : ¬ o.k = 2 := of_decide_eq_false h3
        rw [if_neg (by omega)] at he
        have hS2 : ¬ S.length < 2 := fun h => by rw [if_pos h, hd] at he; cases he
        rw [if_neg hS2] at he
        match S, hS2, he, ht, hsum, hSl with
        | [], h, _, _, _, _ => simp at h
        | [_], h, _, _, _, _ => simp at h
        | b :: a :: S, _, he, ht, hsum, hSl =>
          rw [xt_op (by omega)] at ht
          simp only [List.map_cons, List.sum_cons] at hsum
          simp only [List.length_cons] at hSl
          have hop := (stpOk_op hs (by omega)).1
          have hol : (opT o.k).length = 1 := by unfold opT; split; rfl; split <;> rfl
          have hw1 : IntKind.i64.wrap (((strV (b :: a :: S).reverse).length : Int) - 2) = (S.length : Nat) := by
            rw [List.length_map, List.length_reverse, List.length_cons, List.length_cons, wr (by omega) (by omega)]; omega
          have hw2 : IntKind.i64.wrap ((S.length : Int) + 1) = (S.length + 1 : Nat) := by rw [wr (by omega) (by omega)]; rfl
          have hr : (b :: a :: S).reverse = S.reverse ++ [a, b] := by simp
          have ga : (strV (b :: a :: S).reverse)[((S.length : Nat) : Int).toNat]? = some [.str a] := by rw [hr]; simp
          have gb : (strV (b :: a :: S).reverse)[((S.length + 1 : Nat) : Int).toNat]? = some [.str b] := by rw [hr]; simp
          conv => whnf
          rw [hw1]
          refine ⟨⟨⟩, by dsimp only; rw [List.length_map, List.length_reverse, List.length_cons, List.length_cons]; omega, ?_⟩
          conv => whnf
          refine ⟨[.str a], ga, ?_⟩
          conv => whnf
          refine ⟨⟨⟩, by dsimp only; simp only [List.length_cons, List.length_nil]; omega, ?_⟩
          conv => whnf
          refine ⟨⟨⟩, by dsimp only; simp only [List.length_append, List.length_cons, List.length_nil]; omega, ?_⟩
          conv => whnf
          refine call0 (how_good o.k hop) ?_
          conv => whnf
          refine ⟨⟨⟩, by dsimp only; simp only [List.length_append, List.length_cons, List.length_nil]; omega, ?_⟩
          conv => whnf
          refine ⟨⟨⟩, by dsimp only; simp only [List.length_append, List.length_cons, List.length_nil]; omega, ?_⟩
          conv => whnf
          rw [hw2]
          refine ⟨⟨⟩, by dsimp only; rw [List.length_map, List.length_reverse, List.length_cons, List.length_cons]; omega, ?_⟩
          conv => whnf
          refine ⟨[.str b], gb, ?_⟩
          conv => whnf
          refine ⟨⟨⟩, by dsimp only; simp only [List.length_append, List.length_cons, List.length_nil]; omega, ?_⟩
          conv => whnf
          refine ⟨⟨⟩, by dsimp only; simp only [List.length_append, List.length_cons, List.length_nil]; omega, ?_⟩
          conv => whnf
          refine ⟨by kernel_rfl, ?_⟩
          conv => whnf
          have tk : (strV (b :: a :: S).reverse).take ((S.length : Nat) : Int).toNat = strV S.reverse := by rw [hr]; simp
          refine ⟨⟨⟩, by dsimp only; rw [List.length_map, List.length_reverse, List.length_cons, List.length_cons]; omega, ?_⟩
          conv => whnf
          refine ⟨⟨⟩, by dsimp only; rw [tk]; simp only [List.length_map, List.length_reverse, List.length_cons, List.length_nil]; omega, ?_⟩
          conv => whnf
          refine ⟨l.length - (k + 1), by omega, k + 1, nodeT o.k a b :: S, rfl, by omega, by simpa using he, ht, ?_, by simp; omega, ?_⟩
          · simp only [List.map_cons, List.sum_cons, nodeT, List.length_append, List.length_cons, List.length_nil, hol]; omega
          · rw [hw4, show strV (nodeT o.k a b :: S).reverse = strV S.reverse ++ [[.str (nodeT o.k a b)]] from by rw [List.reverse_cons]; exact List.map_append, tk]; rfl
      · have h1 := of_decide_eq_false h1
        have hdr : l.drop k = [] := List.drop_eq_nil_iff.2 (by omega)
        rw [hdr, depGo] at he
        rw [hdr, xtGo] at ht
        match S, he, ht with
        | [T], _, ht =>
          conv => whnf
          refine ⟨⟨⟩, by simp, ?_⟩
          conv => whnf
          refine ⟨_, rfl, ?_⟩
          conv => whnf
          refine fin0 ?_ trivial
          unfold exprT; rw [ht]; rfl
        | [], he, _ => rw [hd] at he; simp at he
        | _ :: _ :: _, he, _ => rw [hd] at he; simp at he
end Go.PV
namespace Go.PV
open Go Go.Proofs
set_option maxRecDepth 100000
theorem wk1 : toksR [112, 40, 88, 44, 45, 49, 41] = [⟨1, [112], (1, 1)⟩, ⟨5, [40], (1, 2)⟩, ⟨2, [88], (1, 3)⟩, ⟨5, [44], (1, 4)⟩, ⟨3, [45, 49], (1, 5)⟩, ⟨5, [41], (1, 7)⟩] := by kernel_rfl
theorem wk1p : posR [112, 40, 88, 44, 45, 49, 41] = (0, 0) := by kernel_rfl
theorem wk1e : errR [112, 40, 88, 44, 45, 49, 41] = 0 := by kernel_rfl
theorem wk2 : toksR [97, 10, 32, 63] = [] := by kernel_rfl
theorem wk2p : posR [97, 10, 32, 63] = (2, 2) := by kernel_rfl
theorem wk2e : errR [97, 10, 32, 63] = 6 := by kernel_rfl
end Go.PV
namespace Go.PV
open Go
/-! the page's reader -/
structure Rf where
  l : List Tok
  i : Nat
  ok : Bool
abbrev Rf.ob (r : Rf) : Ob := .box 0 [.sl 4 (toksV r.l), .int .i64 r.i, .bool r.ok]
def refTerm (t : Tok) : Trm :=
  if t.k = 2 then ⟨t.t, zeroV⟩ else if t.k = 3 then ⟨[], ⟨1, (refNumS t.t).getD 0, []⟩⟩ else if t.k = 4 then ⟨[], ⟨3, 0, (refQuotedS t.t).1⟩⟩ else ⟨[], ⟨2, 0, t.t⟩⟩
def tokOk (t : Tok) : Bool := decide (1 ≤ t.k ∧ t.k ≤ 5) && refRight t.k t.t
namespace Rf
def tok (r : Rf) : Option Tok := match r.l[r.i]? with
  | some t => if tokOk t then some t else none
  | none => none
def is (r : Rf) (k : Int) (s : Bs) : Bool := match r.tok with
  | some t => decide (t.k = k) && decide (t.t = s)
  | none => false
def step (r : Rf) : Rf := { r with i := r.i + 1 }
def fail (r : Rf) : Rf := { r with ok := false }
def take (r : Rf) (k : Int) (s : Bs) : Rf := if r.ok && r.is k s then r.step else r.fail
def name (r : Rf) : Bs × Rf := match r.tok with
  | some t => if r.ok = true ∧ t.k = 1 ∧ nameS t.t = true then (t.t, r.step) else ([], r.fail)
  | none => ([], r.fail)
def num (r : Rf) : Int × Rf := match r.tok with
  | some t => if r.ok = true ∧ t.k = 3 then ((refNumS t.t).getD 0, r.step) else (0, r.fail)
  | none => (0, r.fail)
def term (r : Rf) : Trm × Rf := match r.tok with
  | some t => if r.ok = true ∧ t.k ≠ 5 then (refTerm t, r.step) else (zeroT, r.fail)
  | none => (zeroT, r.fail)
def args : Nat → Rf → List Trm × Rf
  | 0, r => ([], r)
  | f + 1, r => if r.ok && r.is 5 [44] then (r.step.term.1 :: (args f r.step.term.2).1, (args f r.step.term.2).2) else ([], r)
def atom (r : Rf) : Atm × Rf :=
  if r.name.2.ok && r.name.2.is 5 [40] then
    (⟨r.name.1, r.name.2.step.term.1 :: (args r.name.2.l.length r.name.2.step.term.2).1⟩, (args r.name.2.l.length r.name.2.step.term.2).2.take 5 [41])
  else (⟨r.name.1, []⟩, r.name.2)
end Rf
/-- the two readers stand alike -/
structure Sim (r : Rd) (q : Rf) : Prop where
  l : r.l = q.l
  i : r.i = q.i
  over : r.over = false
  bad : r.bad = !q.ok
namespace Sim
theorem isOpen {r : Rd} {q : Rf} (h : Sim r q) : r.isOpen = q.ok := by
  unfold Rd.isOpen; rw [h.bad, h.over]; cases q.ok <;> rfl
theorem step {r : Rd} {q : Rf} (h : Sim r q) : Sim r.step q.step := ⟨h.l, by show r.i + 1 = q.i + 1; rw [h.i], h.over, h.bad⟩
theorem fail {r : Rd} {q : Rf} (h : Sim r q) : Sim r.fail q.fail := ⟨h.l, h.i, h.over, rfl⟩
theorem cur {r : Rd} {q : Rf} (h : Sim r q) : r.cur = (q.l[q.i]?).map kt := by unfold Rd.cur; rw [h.l, h.i]
theorem see {r : Rd} {q : Rf} (h : Sim r q) {k : Int} {s : Bs} (hk : tokOk ⟨k, s, (0, 0)⟩ = true) : r.see k s = (q.ok && q.is k s) := by
  unfold Rd.see Rf.is Rf.tok
  rw [h.isOpen, h.cur]
  congr 1
  cases hg : q.l[q.i]? with
  | none => rfl
  | some t =>
    dsimp only [Option.map_some]
    by_cases e : t.k = k ∧ t.t = s
    · obtain ⟨e1, e2⟩ := e
      have ht : tokOk t = true := by unfold tokOk at hk ⊢; rw [e1, e2]; exact hk
      rw [ht, if_pos rfl]; simp [kt, e1, e2]
    · have e1 : decide (some (kt t) = some (k, s)) = false := by
        rw [decide_eq_false_iff_not]; intro h; simp only [Option.some.injEq, Prod.mk.injEq, kt] at h; exact e h
      rw [e1]
      split
      · rename_i u hu
        split at hu
        · cases hu
          symm; rw [Bool.and_eq_false_iff, decide_eq_false_iff_not, decide_eq_false_iff_not]
          by_cases h1 : t.k = k
          · exact .inr fun h2 => e ⟨h1, h2⟩
          · exact .inl h1
        · cases hu
      · rfl
theorem want {r : Rd} {q : Rf} (h : Sim r q) {k : Int} {s : Bs} (hk : tokOk ⟨k, s, (0, 0)⟩ = true) : Sim (r.want k s) (q.take k s) := by
  unfold Rd.want Rf.take
  rw [h.see hk]
  cases hq : q.ok && q.is k s with
  | true => exact h.step
  | false =>
    rw [if_neg (by simp)]
    cases ho : q.ok with
    | true => rw [if_pos (by rw [h.isOpen, ho])]; exact h.fail
    | false => rw [if_neg (by rw [h.isOpen, ho]; simp)]; exact ⟨h.l, h.i, h.over, by rw [h.bad, ho]; rfl⟩
theorem shut {r : Rd} {q : Rf} (h : Sim r q) (ho : q.ok = false) : Sim r q.fail := ⟨h.l, h.i, h.over, by rw [h.bad, ho]; rfl⟩
theorem name {r : Rd} {q : Rf} (h : Sim r q) : r.name.1 = q.name.1 ∧ Sim r.name.2 q.name.2 := by
  unfold Rd.name Rf.name Rf.tok
  rw [h.isOpen, h.cur]
  cases ho : q.ok with
  | false =>
    have hs := h.shut ho
    rw [if_neg (by simp)]
    split
    · rw [if_neg (by simp)]; exact ⟨rfl, hs⟩
    · exact ⟨rfl, hs⟩
  | true =>
    rw [if_pos rfl]
    cases hg : q.l[q.i]? with
    | none => exact ⟨rfl, h.fail⟩
    | some t =>
      dsimp only [Option.map_some]
      by_cases e : t.k = 1 ∧ nameS t.t = true
      · have ht : tokOk t = true := by
          unfold tokOk refRight; rw [e.1, if_pos rfl, nameS_word e.2]; rfl
        rw [if_pos e, ht, if_pos rfl]
        dsimp only
        rw [if_pos ⟨rfl, e⟩]
        exact ⟨rfl, h.step⟩
      · rw [if_neg e]
        split
        · rename_i u hu
          split at hu
          · cases hu
            rw [if_neg (fun x => e x.2)]
            exact ⟨rfl, h.fail⟩
          · cases hu
        · exact ⟨rfl, h.fail⟩
theorem tok1 (s : Bs) (p : Int × Int) : tokOk ⟨1, s, p⟩ = refWordS false s := by simp [tokOk, refRight]
theorem tok2 (s : Bs) (p : Int × Int) : tokOk ⟨2, s, p⟩ = varS s := by simp [tokOk, refRight, varS]
theorem tok3 (s : Bs) (p : Int × Int) : tokOk ⟨3, s, p⟩ = (refNumS s).isSome := by simp [tokOk, refRight]
theorem tok4 (s : Bs) (p : Int × Int) : tokOk ⟨4, s, p⟩ = (refQuotedS s).2 := by simp [tokOk, refRight]
theorem value (t : Tok) : valueS (kt t) = if tokOk t = true ∧ t.k ≠ 5 then some (refTerm t) else none := by
  obtain ⟨k, s, p⟩ := t
  show valueS (k, s) = _
  dsimp only
  by_cases h2 : k = 2
  · subst h2
    have e1 : valueS (2, s) = if varS s = true then some ⟨s, zeroV⟩ else none := rfl
    have e2 : refTerm ⟨2, s, p⟩ = ⟨s, zeroV⟩ := rfl
    rw [e1, e2, tok2]
    cases varS s
    · rw [if_neg (by simp), if_neg (by simp)]
    · rw [if_pos rfl, if_pos ⟨rfl, by omega⟩]
  by_cases h3 : k = 3
  · subst h3
    have e1 : valueS (3, s) = (numberS s).map fun v => ⟨[], v⟩ := rfl
    have e2 : refTerm ⟨3, s, p⟩ = ⟨[], ⟨1, (refNumS s).getD 0, []⟩⟩ := rfl
    rw [e1, e2, tok3, number_ref]
    cases refNumS s with
    | none => rw [if_neg (by simp)]; rfl
    | some n => rw [if_pos ⟨rfl, by omega⟩]; rfl
  have e1 : valueS (k, s) = match parseS s with
    | some v => if (k = 1 ∧ v.k = 2) ∨ (k = 4 ∧ v.k = 3) then some ⟨[], v⟩ else none
    | none => none := by unfold valueS; rw [if_neg h2, if_neg h3]; rfl
  rw [e1]
  by_cases h1 : k = 1
  · subst h1
    have e2 : refTerm ⟨1, s, p⟩ = ⟨[], ⟨2, 0, s⟩⟩ := rfl
    rw [e2, tok1]
    cases hw : refWordS false s with
    | true =>
      rw [← symbol_word] at hw
      rw [parse_sym hw, if_pos ⟨rfl, by omega⟩]
      dsimp only
      rw [if_pos (.inl ⟨rfl, rfl⟩)]
    | false =>
      rw [if_neg (by simp)]
      cases hp : parseS s with
      | none => rfl
      | some v =>
        dsimp only
        rw [if_neg]
        rintro (⟨_, h⟩ | ⟨h, _⟩)
        · obtain ⟨c1, c2⟩ := parse_some hp
          rcases check_cases c1 with ⟨c, _⟩ | ⟨_, _, c3, c4⟩ | ⟨c, _⟩
          · omega
          · rw [c4] at c2; rw [c2, symbol_word, hw] at c3; cases c3
          · omega
        · omega
  by_cases h4 : k = 4
  · subst h4
    have e2 : refTerm ⟨4, s, p⟩ = ⟨[], ⟨3, 0, (refQuotedS s).1⟩⟩ := rfl
    rw [e2, tok4]
    have hq := quoted_ref (t := s)
    cases hr : (refQuotedS s).2 with
    | true =>
      obtain ⟨v, hv, hk⟩ := hq.1.1 hr
      rw [hv, if_pos ⟨rfl, by omega⟩]
      dsimp only
      rw [if_pos (.inr ⟨rfl, hk⟩), hq.2 v hv hk]
    | false =>
      rw [if_neg (by simp)]
      cases hp : parseS s with
      | none => rfl
      | some v =>
        dsimp only
        rw [if_neg]
        rintro (⟨h, _⟩ | ⟨_, h⟩)
        · omega
        · rw [hq.1.2 ⟨v, hp, h⟩] at hr; cases hr
  have h5 : ¬ (tokOk ⟨k, s, p⟩ = true ∧ k ≠ 5) := by
    rintro ⟨h, h5⟩
    unfold tokOk at h
    rw [Bool.and_eq_true, decide_eq_true_eq] at h
    have := h.1
    dsimp only at this
    omega
  rw [if_neg h5]
  cases parseS s with
  | none => rfl
  | some v => dsimp only; rw [if_neg (by omega)]
theorem term {r : Rd} {q : Rf} (h : Sim r q) : r.term.1 = q.term.1 ∧ Sim r.term.2 q.term.2 := by
  unfold Rd.term Rf.term Rf.tok
  rw [h.isOpen, h.cur]
  cases ho : q.ok with
  | false =>
    have hs := h.shut ho
    rw [if_neg (by simp)]
    split
    · rw [if_neg (by simp)]; exact ⟨rfl, hs⟩
    · exact ⟨rfl, hs⟩
  | true =>
    rw [if_pos rfl]
    cases hg : q.l[q.i]? with
    | none => exact ⟨rfl, h.fail⟩
    | some t =>
      dsimp only [Option.map_some, Option.bind_some]
      rw [value]
      by_cases e : tokOk t = true ∧ t.k ≠ 5
      · rw [if_pos e, e.1, if_pos rfl]
        dsimp only
        rw [if_pos ⟨rfl, e.2⟩]
        exact ⟨rfl, h.step⟩
      · rw [if_neg e]
        dsimp only
        split
        · rename_i u hu
          split at hu
          · rename_i h1
            cases hu
            rw [if_neg (fun x => e ⟨h1, x.2⟩)]
            exact ⟨rfl, h.fail⟩
          · cases hu
        · exact ⟨rfl, h.fail⟩
theorem num {r : Rd} {q : Rf} (h : Sim r q) : r.num.1 = q.num.1 ∧ Sim r.num.2 q.num.2 := by
  unfold Rd.num Rf.num Rf.tok
  rw [h.isOpen, h.cur]
  cases ho : q.ok with
  | false =>
    have hs := h.shut ho
    rw [if_neg (by simp)]
    split
    · rw [if_neg (by simp)]; exact ⟨rfl, hs⟩
    · exact ⟨rfl, hs⟩
  | true =>
    rw [if_pos rfl]
    cases hg : q.l[q.i]? with
    | none => exact ⟨rfl, h.fail⟩
    | some t =>
      dsimp only [Option.map_some]
      by_cases h3 : t.k = 3
      · rw [if_pos h3, number_ref]
        have e : tokOk t = (refNumS t.t).isSome := by unfold tokOk refRight; rw [h3]; simp
        rw [e]
        cases hn : refNumS t.t with
        | none => exact ⟨rfl, h.fail⟩
        | some n =>
          dsimp only [Option.map_some, Option.isSome_some]
          rw [if_pos rfl]
          dsimp only
          rw [if_pos ⟨rfl, h3⟩, hn]
          exact ⟨rfl, h.step⟩
      · rw [if_neg h3]
        dsimp only
        split
        · rename_i u hu
          split at hu
          · cases hu
            rw [if_neg (fun x => h3 x.2)]
            exact ⟨rfl, h.fail⟩
          · cases hu
        · exact ⟨rfl, h.fail⟩
theorem args : ∀ (f : Nat) {r : Rd} {q : Rf}, Sim r q → (Rd.args f r).1 = (Rf.args f q).1 ∧ Sim (Rd.args f r).2 (Rf.args f q).2
  | 0, r, q, h => ⟨rfl, h⟩
  | f + 1, r, q, h => by
    unfold Rd.args Rf.args
    rw [h.see (by decide +kernel)]
    cases q.ok && q.is 5 [44] with
    | false => exact ⟨rfl, h⟩
    | true =>
      rw [if_pos rfl, if_pos rfl]
      have h1 := h.step.term
      have h2 := args f h1.2
      exact ⟨by dsimp only; rw [h1.1, h2.1], h2.2⟩
theorem wrong {r : Rd} {q : Rf} (h : Sim r q) (b : Bool) : Sim { r with wrong := b } q := ⟨h.l, h.i, h.over, h.bad⟩
theorem args_w : ∀ (f : Nat) (r : Rd), (Rd.args f r).2.wrong = r.wrong
  | 0, r => rfl
  | f + 1, r => by
    unfold Rd.args
    split
    · dsimp only
      rw [args_w f]
      show r.step.term.2.wrong = r.wrong
      unfold Rd.term
      split
      · split <;> rfl
      · rfl
    · rfl
/-- an atom: the same; too many arguments are cut off -/
theorem atom {r : Rd} {q : Rf} (h : Sim r q) : r.atom.1 = ⟨q.atom.1.n, q.atom.1.a.take 5⟩ ∧ Sim r.atom.2 q.atom.2 ∧ (r.wrong = false → r.atom.2.wrong = decide (5 < q.atom.1.a.length)) := by
  have h1 := h.name
  have hw : r.name.2.wrong = r.wrong := by
    unfold Rd.name
    split
    · split
      · split <;> rfl
      · rfl
    · rfl
  have hs := h1.2.see (k := 5) (s := [40]) (by decide +kernel)
  cases hq : q.name.2.ok && q.name.2.is 5 [40] with
  | false =>
    rw [hq] at hs
    rw [Rd.atom_no hs]
    unfold Rf.atom; rw [hq, if_neg (by simp)]
    exact ⟨by rw [h1.1]; rfl, h1.2, fun h0 => by dsimp only; rw [hw, h0]; rfl⟩
  | true =>
    rw [hq] at hs
    rw [Rd.atom_yes hs]
    unfold Rf.atom; rw [hq, if_pos rfl]
    have h2 := h1.2.step.term
    have hl : r.name.2.l.length = q.name.2.l.length := by rw [h1.2.l]
    have h3 := args q.name.2.l.length h2.2
    have h4 := h3.2.want (k := 5) (s := [41]) (by decide +kernel)
    rw [hl]
    refine ⟨by dsimp only; rw [h1.1, h2.1, h3.1], ?_, fun h0 => ?_⟩
    · split
      · exact h4.wrong true
      · exact h4
    · have hww : ∀ (x : Rd) k s, (x.want k s).wrong = x.wrong := fun x k s => by
        unfold Rd.want; split
        · rfl
        · split <;> rfl
      have ht : r.name.2.step.term.2.wrong = r.wrong := by
        rw [← hw]
        unfold Rd.term
        split
        · split <;> rfl
        · rfl
      rw [h3.1]
      dsimp only
      rw [List.length_cons]
      split
      · rename_i h5; rw [decide_eq_true h5]
      · rename_i h5; rw [hww, args_w, ht, h0, decide_eq_false h5]
end Sim
namespace Rf
theorem name_l (r : Rf) : r.name.2.l = r.l ∧ r.i ≤ r.name.2.i := by
  unfold name
  split
  · split
    · exact ⟨rfl, Nat.le_succ _⟩
    · exact ⟨rfl, Nat.le_refl _⟩
  · exact ⟨rfl, Nat.le_refl _⟩
theorem term_l (r : Rf) : r.term.2.l = r.l ∧ r.i ≤ r.term.2.i ∧ r.term.2.i ≤ r.i + 1 := by
  unfold term
  split
  · split
    · exact ⟨rfl, Nat.le_succ _, Nat.le_refl _⟩
    · exact ⟨rfl, Nat.le_refl _, Nat.le_succ _⟩
  · exact ⟨rfl, Nat.le_refl _, Nat.le_succ _⟩
theorem num_l (r : Rf) : r.num.2.l = r.l ∧ r.i ≤ r.num.2.i := by
  unfold num
  split
  · split
    · exact ⟨rfl, Nat.le_succ _⟩
    · exact ⟨rfl, Nat.le_refl _⟩
  · exact ⟨rfl, Nat.le_refl _⟩
theorem take_l (r : Rf) (k : Int) (s : Bs) : (r.take k s).l = r.l ∧ r.i ≤ (r.take k s).i := by
  unfold take
  split
  · exact ⟨rfl, Nat.le_succ _⟩
  · exact ⟨rfl, Nat.le_refl _⟩
end Rf
/-- an atom at a place, as the page reads it -/
def refReadA (l : List Tok) (i : Nat) : Atm × Nat × Int :=
  let x := (⟨l, i, true⟩ : Rf).atom
  if x.2.ok then (if atomOk x.1 then (x.1, x.2.i, 0) else (zeroA, i, 7)) else (zeroA, x.2.i, 7)
theorem Rd.atom_le {r : Rd} (h : r.i ≤ r.l.length) : r.atom.2.i ≤ r.l.length := by
  have hname : r.name.2.i ≤ r.l.length := by
    unfold Rd.name
    split
    · split
      · rename_i x hx
        split
        · exact Rd.cur_lt hx
        · exact h
      · exact h
    · exact h
  have hl := (Rd.name_l r).1
  have hterm : ∀ q : Rd, q.i ≤ q.l.length → q.term.2.i ≤ q.l.length := fun q hq => by
    unfold Rd.term
    split
    · split
      · rename_i t ht
        rw [Option.bind_eq_some_iff] at ht
        obtain ⟨x, h1, _⟩ := ht
        exact Rd.cur_lt h1
      · exact hq
    · exact hq
  have hargs : ∀ (f : Nat) (q : Rd), q.i ≤ q.l.length → (Rd.args f q).2.i ≤ q.l.length := by
    intro f
    induction f with
    | zero => intro q hq; exact hq
    | succ f ih =>
      intro q hq
      unfold Rd.args
      split
      · rename_i hs
        have h1 := Rd.cur_lt (Rd.see_open hs).2
        have h2 := hterm q.step h1
        have h3 := (Rd.term_l q.step).1
        have := ih q.step.term.2 (by rw [h3]; exact h2)
        rw [h3] at this
        exact this
      · exact hq
  have hwant : ∀ (q : Rd) k s, q.i ≤ q.l.length → (q.want k s).i ≤ q.l.length := fun q k s hq => by
    unfold Rd.want
    split
    · rename_i hs; exact Rd.cur_lt (Rd.see_open hs).2
    · split <;> exact hq
  cases hs : r.name.2.see 5 [40] with
  | false => rw [Rd.atom_no hs]; exact hname
  | true =>
    rw [Rd.atom_yes hs]
    have h1 := Rd.cur_lt (Rd.see_open hs).2
    have h2 := hterm r.name.2.step h1
    have h3 := (Rd.term_l r.name.2.step).1
    have h4 := hargs r.name.2.l.length r.name.2.step.term.2 (by rw [h3]; exact h2)
    have h5 := (Rd.args_l r.name.2.l.length r.name.2.step.term.2).1
    have h6 := hwant (Rd.args r.name.2.l.length r.name.2.step.term.2).2 5 [41] (by rw [h5]; exact h4)
    rw [h5, h3] at h6
    have h7 : r.name.2.step.l.length = r.l.length := by show r.name.2.l.length = _; rw [hl]
    rw [h7] at h6
    dsimp only
    split <;> exact h6
theorem readA_ref {l : List Tok} {i : Nat} (hi : i ≤ l.length) : readA l i = refReadA l i := by
  have h : Sim (rd0 l i) ⟨l, i, true⟩ := ⟨rfl, rfl, rfl, rfl⟩
  obtain ⟨h1, h2, h3⟩ := h.atom
  have h3 := h3 rfl
  have hle := Rd.atom_le (r := rd0 l i) hi
  have hal : (rd0 l i).atom.2.l = l := (Rd.atom_l (rd0 l i)).1
  have hop := Rd.atom_open (r := rd0 l i)
  unfold readA refReadA
  dsimp only
  unfold Rd.endE Rd.endI
  generalize (rd0 l i).atom = x at *
  generalize (⟨l, i, true⟩ : Rf).atom = y at *
  rw [h2.bad, h2.over, h3]
  have hx : (x.2.i : Nat) = y.2.i := h2.i
  cases ho : y.2.ok with
  | false =>
    simp only [Bool.not_false, Bool.true_or, if_true]
    rw [if_neg (by omega), if_neg (by simp), hal, ← hx, Nat.min_eq_left hle]
  | true =>
    by_cases h5 : 5 < y.1.a.length
    · have : atomOk y.1 = false := by unfold atomOk; rw [decide_eq_false (by omega)]; simp
      simp only [decide_eq_true h5, Bool.not_true, Bool.false_or, if_true, Bool.false_eq_true, if_false, this]
      rw [if_neg (by omega)]
    · have hy : x.1 = y.1 := by rw [h1, List.take_of_length_le (by omega)]
      have hok : atomOk y.1 = true := by
        rw [← hy]
        refine (hop (by rw [h2.isOpen, ho])).1 (by rw [h3, decide_eq_false h5]) rfl
      simp only [decide_eq_false h5, Bool.not_true, Bool.false_or, Bool.false_eq_true, if_false, hok, if_true]
      rw [hy, hx]
end Go.PV
namespace Go.PV
open Go
/-! facts, traces -/
structure Fct where
  n : Bs
  a : List Val
abbrev valV (l : List Val) : List (List V) := l.map Val.c
abbrev Fct.c (f : Fct) : List V := [.str f.n, .sl 3 (valV f.a)]
abbrev fctV (l : List Fct) : List (List V) := l.map Fct.c
instance : DecidableEq Fct := fun a b => decidable_of_iff (a.n = b.n ∧ a.a = b.a) (by cases a; cases b; simp)
def zeroF : Fct := ⟨[], []⟩
def Fct.at (f : Fct) : Atm := ⟨f.n, f.a.map fun v => ⟨[], v⟩⟩
def Atm.gr (a : Atm) : Fct := ⟨a.n, a.a.map Trm.x⟩
def factOk (f : Fct) : Bool := nameS f.n && decide (f.a.length ≤ 5) && f.a.all checkS
theorem at_gr (f : Fct) : f.at.gr = f := by
  obtain ⟨n, a⟩ := f
  simp only [Fct.at, Atm.gr, List.map_map]
  congr 1
  exact (List.map_congr_left fun v _ => rfl).trans (List.map_id' a)
theorem at_ok (f : Fct) : atomOk f.at = factOk f := by
  unfold atomOk factOk Fct.at
  dsimp only
  rw [List.length_map, List.all_map]
  congr 2
theorem at_inj {f g : Fct} (h : f.at = g.at) : f = g := by rw [← at_gr f, h, at_gr]
def free (a : Atm) : Bool := a.a.all fun t => decide (t.v = [])
theorem gr_at {a : Atm} (h : free a = true) : a.gr.at = a := by
  obtain ⟨n, l⟩ := a
  simp only [Fct.at, Atm.gr, List.map_map]
  congr 1
  refine (List.map_congr_left (g := id) fun t ht => ?_).trans (List.map_id l)
  have := List.all_eq_true.1 h t ht
  obtain ⟨v, x⟩ := t
  have : v = [] := by simpa using this
  subst this; rfl
theorem at_free (f : Fct) : free f.at = true := by
  unfold free Fct.at; rw [List.all_eq_true]; intro t ht
  obtain ⟨v, _, rfl⟩ := List.mem_map.1 ht; rfl
def factT (f : Fct) : Bs := atomT f.at
theorem factT_len {f : Fct} (h : factOk f = true) : (factT f).length ≤ 700 := atomT_len (by rw [at_ok]; exact h)
def traceT (l : List Fct) : Bs := l.flatMap fun f => factT f ++ [46, 10]
def traceOk (l : List Fct) : Int := if 200 < l.length then 2 else if l.all factOk then 0 else 1
/-- its signs -/
def traceK : Bs → List Fct → List (Bs × KT)
  | _, [] => []
  | b, f :: r => atomK b f.at ++ ([], (5, [46])) :: traceK [10] r
theorem weaveK_atomK (b : Bs) (a : Atm) : weaveK (atomK b a) = b ++ atomT a := by
  unfold atomT atomK; simp [weaveK]
theorem weave_trace : ∀ (l : List Fct) (b : Bs), l ≠ [] → weaveK (traceK b l) ++ [10] = b ++ traceT l
  | [], b, h => absurd rfl h
  | f :: r, b, _ => by
    have e : weaveK (traceK b (f :: r)) = b ++ (factT f ++ ([46] ++ weaveK (traceK [10] r))) := by
      rw [traceK, weaveK_app, weaveK_atomK]; simp [weaveK, factT]
    rw [e]
    cases r with
    | nil => simp [traceK, weaveK, traceT]
    | cons g r =>
      have ih := weave_trace (g :: r) [10] (by simp)
      have e2 : traceT (f :: g :: r) = factT f ++ [46, 10] ++ traceT (g :: r) := by simp [traceT]
      rw [e2]
      simp only [List.append_assoc]
      rw [ih]; simp
theorem wov_trace : ∀ (l : List Fct) (b tail : Bs), l.all factOk = true → blk b = true → stopH tail = true → WovK tail (traceK b l)
  | [], b, tail, _, _, _ => trivial
  | f :: r, b, tail, h, hb, ht => by
    rw [List.all_cons, Bool.and_eq_true] at h
    rw [traceK]
    refine WovK.app (wov_atom rfl hb (by rw [at_ok]; exact h.1)) ⟨rfl, rfl, ?_, wov_trace r [10] tail h.2 rfl ht⟩
    cases r with
    | nil => exact okEnd_stop ht
    | cons g r =>
      refine okEnd_stop ?_
      have : weaveK (traceK [10] (g :: r)) ++ tail = 10 :: (atomT g.at ++ (weaveK (([], (5, [46])) :: traceK [10] r) ++ tail)) := by
        rw [traceK, weaveK_app, weaveK_atomK]; simp
      rw [this]; rfl
/-- an event, read -/
def eventS (l : List Tok) (i : Nat) : Fct × Nat × Int :=
  let x := readA l i
  if x.2.2 ≠ 0 then (zeroF, x.2.1, 7)
  else if free x.1 = false then (zeroF, i, 7)
  else match l[x.2.1]? with
    | some t => if t.k = 5 ∧ t.t = [46] then (x.1.gr, x.2.1 + 1, 0) else (zeroF, x.2.1, 7)
    | none => (zeroF, x.2.1, 7)
def placeT (l : List Tok) (i : Nat) : Int × Int := match l[i]? with
  | some t => t.p
  | none => match l.getLast? with
    | some t => (t.p.1, t.p.2 + 1)
    | none => (0, 0)
theorem eventS_ok {l : List Tok} {i : Nat} (h : (eventS l i).2.2 = 0) : factOk (eventS l i).1 = true ∧ i < (eventS l i).2.1 ∧ (eventS l i).2.1 ≤ l.length := by
  unfold eventS at *
  dsimp only at h ⊢
  by_cases h0 : (readA l i).2.2 = 0
  · obtain ⟨k1, k2, k3⟩ := readA_ok h0
    rw [if_neg (by omega)] at h ⊢
    cases hf : free (readA l i).1 with
    | false => rw [hf, if_pos rfl] at h; cases h
    | true =>
      rw [hf, if_neg (by simp)] at h
      rw [if_neg (by simp)]
      cases hg : l[(readA l i).2.1]? with
      | none => rw [hg] at h; cases h
      | some t =>
        rw [hg] at h
        dsimp only at h ⊢
        have hlt := (List.getElem?_eq_some_iff.1 hg).1
        split at h
        · rename_i ht
          rw [if_pos ht]
          refine ⟨?_, by dsimp only; omega, by dsimp only; omega⟩
          rw [← at_ok, gr_at hf]; exact k1
        · cases h
  · rw [if_pos h0] at h; cases h
theorem eventS_place {l : List Tok} {i : Nat} (h : i ≤ l.length) : i ≤ (eventS l i).2.1 ∧ (eventS l i).2.1 ≤ l.length ∧ ((eventS l i).2.2 = 0 ∨ (eventS l i).2.2 = 7) := by
  have hp := readA_place h
  unfold eventS
  dsimp only
  split
  · exact ⟨hp.1, hp.2.1, .inr rfl⟩
  · split
    · exact ⟨Nat.le_refl _, h, .inr rfl⟩
    · split
      · rename_i t hg
        have hlt := (List.getElem?_eq_some_iff.1 hg).1
        split
        · exact ⟨by dsimp only; omega, by dsimp only; omega, .inl rfl⟩
        · exact ⟨hp.1, hp.2.1, .inr rfl⟩
      · exact ⟨hp.1, hp.2.1, .inr rfl⟩
/-- the events from a place on: what is read, where the first one too many begins, where it falls -/
def traceGo (l : List Tok) : Nat → Nat → List Fct × Option Nat
  | 0, _ => ([], none)
  | f + 1, i => if i < l.length then
      let x := eventS l i
      if x.2.2 = 0 then (x.1 :: (traceGo l f x.2.1).1, (traceGo l f x.2.1).2) else ([], some x.2.1)
    else ([], none)
/-- where the n-th event begins -/
def traceAt (l : List Tok) : Nat → Nat → Nat
  | 0, i => i
  | n + 1, i => traceAt l n (eventS l i).2.1
def parseT (s : Bs) : List Fct × (Int × Int) × Int :=
  if errR s = 0 then
    let l := toksR s
    let x := traceGo l l.length 0
    match x.2 with
    | some n => ([], placeT l n, 7)
    | none => if 200 < x.1.length then ([], placeT l (traceAt l 200 0), 2) else (x.1, (0, 0), 0)
  else ([], posR s, errR s)
end Go.PV
namespace Go.PV
open Go
/-! law 10: what is written of an atom, of an expression, is read -/
theorem join_tailK : ∀ l : List Trm, weaveK (tailK l) = Lib.joinTail [44, 32] (l.map termT) ++ [41]
  | [] => by simp [tailK, weaveK, Lib.joinTail]
  | t :: r => by
    have ih := join_tailK r
    simp only [Lib.joinTail] at ih
    simp only [tailK, weaveK, List.nil_append, List.map_cons, Lib.joinTail, List.flatten_cons, ih, termK_T, List.append_assoc]
    rfl
theorem atomT_nil {a : Atm} (h : a.a = []) : atomT a = a.n := by
  unfold atomT atomK; rw [h]; simp [argsK, weaveK]
theorem atomT_join {a : Atm} (h : a.a ≠ []) : a.n ++ [40] ++ Lib.join (a.a.map termT) [44, 32] ++ [41] = atomT a := by
  obtain ⟨n, l⟩ := a
  cases l with
  | nil => exact absurd rfl h
  | cons t r =>
    unfold atomT atomK
    simp only [argsK, weaveK, join_tailK, List.map_cons, Lib.join_cons, termK_T]
    simp
def bT : List Bs := [[], [32, 46], [32, 41], [32, 44], [32, 93], [32, 61, 62, 32, 112]]
def bK : List (List (Bs × KT)) := [[], [([32], (5, [46]))], [([32], (5, [41]))], [([32], (5, [44]))], [([32], (5, [93]))], [([32], (5, [61, 62])), ([32], (1, [112]))]]
theorem bK_facts (k : Nat) (h : k < 6) : ∃ (q : List (Bs × KT)), bK[k]? = some q ∧ bT[k]? = some (weaveK q) ∧ WovK [] q ∧ stopH (weaveK q) = true ∧ q.head?.map (·.2) ≠ some (5, [40]) := by
  have h6 : k = 0 ∨ k = 1 ∨ k = 2 ∨ k = 3 ∨ k = 4 ∨ k = 5 := by omega
  rcases h6 with rfl | rfl | rfl | rfl | rfl | rfl
  · exact ⟨_, rfl, rfl, trivial, rfl, by simp⟩
  · exact ⟨_, rfl, rfl, ⟨rfl, (by unfold Tk; decide +kernel), rfl, trivial⟩, rfl, by simp⟩
  · exact ⟨_, rfl, rfl, ⟨rfl, (by unfold Tk; decide +kernel), rfl, trivial⟩, rfl, by simp⟩
  · exact ⟨_, rfl, rfl, ⟨rfl, (by unfold Tk; decide +kernel), rfl, trivial⟩, rfl, by simp⟩
  · exact ⟨_, rfl, rfl, ⟨rfl, (by unfold Tk; decide +kernel), rfl, trivial⟩, rfl, by simp⟩
  · exact ⟨_, rfl, rfl, ⟨rfl, (by unfold Tk; decide +kernel), rfl, rfl, (by unfold Tk; decide +kernel), rfl, trivial⟩, rfl, by simp⟩
theorem atomT_weave (a : Atm) : weaveK (atomK [] a) = atomT a := rfl
theorem lex_atom {a : Atm} (h : atomOk a = true) {q : List (Bs × KT)} (hq : WovK [] q) (hs : stopH (weaveK q) = true) :
    errR (atomT a ++ weaveK q) = 0 ∧ (toksR (atomT a ++ weaveK q)).map kt = (atomK [] a).map (·.2) ++ q.map (·.2) := by
  have hw := WovK.app (tail := []) (a := atomK [] a) (b := q) (by rw [List.append_nil]; exact wov_atom hs rfl h) hq
  obtain ⟨h1, h2, _⟩ := wovK_R hw rfl
  rw [List.append_nil, weaveK_app, atomT_weave] at h1 h2
  exact ⟨h2, by rw [h1, posL_kt, List.map_append]⟩
theorem read_atom {a : Atm} (h : atomOk a = true) {q : List (Bs × KT)} (hq : WovK [] q) (hs : stopH (weaveK q) = true) (hh : q.head?.map (·.2) ≠ some (5, [40])) :
    readA (toksR (atomT a ++ weaveK q)) 0 = (a, (atomK [] a).length, 0) := by
  have := readA_back (l := toksR (atomT a ++ weaveK q)) (i := 0) (b := []) (m := q.map (·.2)) h (by rw [List.drop_zero]; exact (lex_atom h hq hs).2) (fun _ => by rw [List.head?_map]; exact hh)
  rw [this, Nat.zero_add]
theorem parse_atom {a : Atm} (h : atomOk a = true) : parseA (atomT a) = (a, 0) ∧ errR (atomT a) = 0 ∧ (toksR (atomT a)).length = (atomK [] a).length := by
  have h1 := lex_atom h (q := []) trivial rfl
  have h2 := read_atom h (q := []) trivial rfl (by simp)
  have e : atomT a ++ weaveK [] = atomT a := List.append_nil _
  rw [e] at h1 h2
  have h3 : (toksR (atomT a)).length = (atomK [] a).length := by have := congrArg List.length h1.2; simpa using this
  refine ⟨?_, h1.1, h3⟩
  unfold parseA
  rw [if_pos h1.1, h2]
  dsimp only
  rw [if_pos ⟨rfl, h3.symm⟩]
theorem atomT_inj {a b : Atm} (ha : atomOk a = true) (hb : atomOk b = true) : decide (atomT a = atomT b) = decide (a = b) := by
  rw [decide_eq_decide]
  refine ⟨fun h => ?_, fun h => by rw [h]⟩
  have h1 := (parse_atom ha).1
  rw [h, (parse_atom hb).1] at h1
  exact (congrArg Prod.fst h1).symm
namespace Tree
theorem txt_len : ∀ {T : Tree}, T.ok = true → T.txt.length ≤ 130 * T.size
  | leaf t, h => by have := termT_len h; simp only [txt, size]; omega
  | node k a b, h => by
    simp only [ok, Bool.and_eq_true, decide_eq_true_eq] at h
    have h1 := txt_len h.1.2
    have h2 := txt_len h.2
    have h3 : (opT k).length = 1 := by unfold opT; split; rfl; split <;> rfl
    simp only [txt, nodeT, size, List.length_append, List.length_cons, List.length_nil, h3]; omega
theorem lex_txt {T : Tree} (h : T.ok = true) {q : List (Bs × KT)} (hq : WovK [] q) (hs : stopH (weaveK q) = true) :
    errR (T.txt ++ weaveK q) = 0 ∧ (toksR (T.txt ++ weaveK q)).map kt = (T.toks []).map (·.2) ++ q.map (·.2) := by
  have hw := WovK.app (tail := []) (a := T.toks []) (b := q) (by rw [List.append_nil]; exact wov h [] _ rfl hs) hq
  obtain ⟨h1, h2, _⟩ := wovK_R hw rfl
  rw [List.append_nil, weaveK_app, weave_toks, List.nil_append] at h1 h2
  exact ⟨h2, by rw [h1, posL_kt, List.map_append]⟩
theorem read_txt {T : Tree} (h : T.ok = true) (hz : T.size ≤ 15) {q : List (Bs × KT)} (hq : WovK [] q) (hs : stopH (weaveK q) = true) :
    readX (toksR (T.txt ++ weaveK q)) 0 = (T.ops, (T.toks []).length, 0) := by
  have := readX_back (l := toksR (T.txt ++ weaveK q)) (i := 0) (b := []) (m := q.map (·.2)) h hz (by rw [List.drop_zero]; exact (lex_txt h hq hs).2)
  rw [this, Nat.zero_add]
end Tree
theorem exprT_len {l : List Stp} (h : exprOk l = true) : (exprT l).length ≤ 1950 := by
  obtain ⟨T, h1, rfl, h3⟩ := Tree.of_ok h
  rw [Tree.exprT_ops h1]
  have := Tree.txt_len h1
  omega
theorem read_expr {l : List Stp} (h : exprOk l = true) {q : List (Bs × KT)} (hq : WovK [] q) (hs : stopH (weaveK q) = true) :
    errR (exprT l ++ weaveK q) = 0 ∧ (readX (toksR (exprT l ++ weaveK q)) 0).1 = l ∧ (readX (toksR (exprT l ++ weaveK q)) 0).2.2 = 0 := by
  obtain ⟨T, h1, rfl, h3⟩ := Tree.of_ok h
  rw [Tree.exprT_ops h1, Tree.read_txt h1 h3 hq hs]
  exact ⟨(Tree.lex_txt h1 hq hs).1, rfl, rfl⟩
theorem exprT_inj {a b : List Stp} (ha : exprOk a = true) (hb : exprOk b = true) : decide (exprT a = exprT b) = decide (a = b) := by
  rw [decide_eq_decide]
  refine ⟨fun h => ?_, fun h => by rw [h]⟩
  have h1 := (read_expr ha (q := []) trivial rfl).2.1
  rw [h, (read_expr hb (q := []) trivial rfl).2.1] at h1
  exact h1.symm
theorem termOk_len {t : Trm} (h : termOk t = true) : t.v.length ≤ 24 ∧ t.x.s.length ≤ 60 := by
  unfold termOk at h
  split at h
  · rename_i hv
    refine ⟨by rw [hv]; exact Nat.zero_le _, ?_⟩
    rcases check_cases h with ⟨_, _, h3, _⟩ | ⟨_, _, h3, _⟩ | ⟨_, _, h3, _⟩
    · rw [h3]; exact Nat.zero_le _
    · simp [symbolS] at h3; omega
    · simp [plainS] at h3; omega
  · simp only [Bool.and_eq_true, decide_eq_true_eq] at h
    have h1 := h.1
    simp [varS, refWordS] at h1
    exact ⟨by omega, by rw [h.2]; exact Nat.zero_le _⟩
theorem atomOk_len {a : Atm} (h : atomOk a = true) : a.n.length ≤ 24 ∧ a.a.length ≤ 5 ∧ ∀ t ∈ a.a, t.v.length ≤ 24 ∧ t.x.s.length ≤ 60 := by
  unfold atomOk at h
  simp only [Bool.and_eq_true, decide_eq_true_eq, List.all_eq_true] at h
  have hn := nameS_word h.1.1
  simp [refWordS] at hn
  exact ⟨by omega, h.1.2, fun t ht => termOk_len (h.2 t ht)⟩
theorem dep_all : ∀ (l : List Stp) (d n : Nat), depGo d l = some n → ∀ o ∈ l, stpOk o = true
  | [], _, _, _, o, ho => by cases ho
  | x :: r, d, n, h, o, ho => by
    simp only [depGo] at h
    split at h
    · rename_i hx
      rcases List.mem_cons.1 ho with rfl | ho
      · exact hx
      · split at h
        · exact dep_all r _ n h o ho
        · split at h
          · cases h
          · exact dep_all r _ n h o ho
    · cases h
theorem stpOk_len {o : Stp} (h : stpOk o = true) : o.v.length ≤ 24 ∧ o.x.s.length ≤ 60 := by
  by_cases hk : o.k ≤ 2
  · exact termOk_len (stpOk_push h hk).1
  · rw [(stpOk_op h hk).2]; exact ⟨Nat.zero_le _, Nat.zero_le _⟩
theorem exprOk_len {l : List Stp} (h : exprOk l = true) : l.length ≤ 15 ∧ ∀ o ∈ l, o.v.length ≤ 24 ∧ o.x.s.length ≤ 60 := by
  unfold exprOk at h
  simp only [Bool.and_eq_true, decide_eq_true_eq] at h
  exact ⟨h.1.2, fun o ho => stpOk_len (dep_all l 0 1 h.2 o ho)⟩
/-- the tables of AtomsBad -/
def badT : List Bs := [[], [80], [110, 111, 116], [112, 40], [112, 40, 41], [112, 40, 88], [112, 40, 88, 32, 89, 41], [112, 40, 88, 44, 41], [112, 40, 88, 44, 32, 46, 41], [49], [112, 40, 88, 93]]
def badN : List Int := [0, 0, 0, 2, 2, 3, 3, 4, 4, 0, 3]
theorem bad_all : ((List.range 11).all fun k => decide ((badT.getD k []).length ≤ 20000) && decide (errR (badT.getD k []) = 0) && decide ((readA (toksR (badT.getD k [])) 0).2.2 = 7) && decide (((readA (toksR (badT.getD k [])) 0).2.1 : Int) = badN.getD k 0) && decide ((readA (toksR (badT.getD k [])) 0).1 = zeroA) && decide ((parseA (badT.getD k [])).2 = 7)) = true := by decide +kernel
end Go.PV
namespace Go.PV
open Go Go.Proofs
set_option maxRecDepth 100000
theorem atomText_good (a : Atm) (h : atmB a) : Good Tryz.prog 88 [.agg a.c] [] [.str (if atomOk a then atomT a else []), .int .i64 (if atomOk a then 0 else 1)] [] := by
  refine good_of hP Tryz.func88 (by kernel_rfl) (lv := [0, 1, 2, 3, 4, 5, 7, 11, 14, 15, 16, 17, 28]) (js := []) ⟨rfl, rfl, rfl, rfl, rfl, rfl, _, rfl, ?_⟩
  conv => whnf
  refine call0 (mcheck_good a h) ?_
  cases hk : atomOk a with
  | false =>
    conv => whnf
    exact fin0 rfl trivial
  | true =>
    have hl : a.a.length ≤ 5 := by unfold atomOk at hk; simp at hk; exact hk.1.2
    have hok : ∀ t ∈ a.a, termOk t = true := by unfold atomOk at hk; simp at hk; exact hk.2
    have hn : a.n.length ≤ 1000000 := h.1
    conv => whnf
    refine loop_of hP [0, 1, 2, 3, 4, 5, 7, 11, 14, 15, 16, 17, 28] [] [1, 5, 14, 15, 16] [65, 69] [.slot 5 1] (fun n st => ∃ k : Nat, n = a.a.length - k ∧ k ≤ a.a.length ∧ st = ⟨[(1, .ptr 65 0 0), (5, .own 69 0), (14, .sl 4 (trmV a.a)), (15, .int .i64 a.a.length), (16, .int .i64 k)], [(65, .box 0 [.str a.n, .sl 4 (trmV a.a)]), (69, .arr 0 false 1 (strV ((a.a.take k).map termT)))]⟩) a.a.length ?_ ?_
    · conv => whnf
      exact ⟨0, rfl, Nat.zero_le _, by rw [← List.length_map (f := Trm.c)]; rfl⟩
    · rintro n st ⟨k, rfl, hkl, rfl⟩
      conv => whnf
      refine branch_of (fun h1 => ?_) (fun h1 => ?_)
      · have h1 := of_decide_eq_true h1
        have hk' : k < a.a.length := by omega
        conv => whnf
        refine ⟨Trm.c a.a[k], idxM hk' rfl, ?_⟩
        conv => whnf
        refine call0 (term_good a.a[k] (h.2.2 _ (List.getElem_mem hk'))) ?_
        conv => whnf
        refine ⟨⟨⟩, by dsimp only; simp only [List.length_map, List.length_take, List.length_cons, List.length_nil]; omega, ?_⟩
        conv => whnf
        refine ⟨a.a.length - (k + 1), by omega, k + 1, rfl, by omega, ?_⟩
        rw [wr (by omega) (by omega), map_snoc _ a.a hk', show strV ((a.a.take k).map termT ++ [termT a.a[k]]) = strV ((a.a.take k).map termT) ++ [[.str (termT a.a[k])]] from List.map_append]
        rfl
      · have h1 := of_decide_eq_false h1
        have : k = a.a.length := by omega
        subst this
        rw [List.take_length]
        have hjl : (Lib.join (a.a.map termT) [44, 32]).length ≤ 1000000 := by
          by_cases hz : a.a = []
          · rw [hz]; exact Nat.zero_le _
          · have e := congrArg List.length (atomT_join hz)
            have := atomT_len hk
            simp only [List.length_append] at e
            omega
        conv => whnf
        refine branch_of (fun h2 => ?_) (fun h2 => ?_)
        · have h2 := of_decide_eq_true h2
          rw [List.length_map, List.length_map] at h2
          have hz : a.a = [] := List.eq_nil_of_length_eq_zero (by omega)
          conv => whnf
          exact fin0 (by rw [if_pos rfl, if_pos rfl, atomT_nil hz]) trivial
        · have h2 := of_decide_eq_false h2
          rw [List.length_map, List.length_map] at h2
          have hz : a.a ≠ [] := fun e => by rw [e] at h2; exact h2 rfl
          conv => whnf
          refine ⟨⟨⟩, by dsimp only; simp only [List.length_cons, List.length_nil]; omega, ?_⟩
          conv => whnf
          refine call0 (join_good (a.a.map termT) [44, 32] (by simp; omega) (by omega)) ?_
          conv => whnf
          refine ⟨⟨⟩, by dsimp only; simp only [List.length_append, List.length_cons, List.length_nil]; omega, ?_⟩
          conv => whnf
          refine ⟨⟨⟩, by dsimp only; simp only [List.length_append, List.length_cons, List.length_nil]; omega, ?_⟩
          conv => whnf
          refine ⟨by kernel_rfl, ?_⟩
          conv => whnf
          exact fin0 (by rw [if_pos rfl, if_pos rfl, ← atomT_join hz]) trivial
theorem pA : parseA [112, 40, 88, 44, 32, 49, 44, 32, 34, 97, 34, 41] = (⟨[112], [⟨[88], zeroV⟩, ⟨[], ⟨1, 1, []⟩⟩, ⟨[], ⟨3, 0, [97]⟩⟩]⟩, 0) := by decide +kernel
def wkT : Bs := [40, 88, 32, 43, 32, 40, 50, 32, 42, 32, 89, 41, 41, 32, 122]
def wkX : List Stp := [⟨1, [88], zeroV⟩, ⟨2, [], ⟨1, 2, []⟩⟩, ⟨1, [89], zeroV⟩, ⟨5, [], zeroV⟩, ⟨3, [], zeroV⟩]
theorem pX : readX (toksR wkT) 0 = (wkX, 9, 0) := by decide +kernel
theorem pXe : errR wkT = 0 := by decide +kernel
theorem pXa : readA (toksR wkT) 0 = (zeroA, 0, 7) := by decide +kernel
theorem pT : exprOk wkX = true ∧ exprT wkX = [40, 88, 32, 43, 32, 40, 50, 32, 42, 32, 89, 41, 41] := by decide +kernel
theorem pU : atomOk ⟨[112], [⟨[88], zeroV⟩, ⟨[], ⟨1, 1, []⟩⟩, ⟨[], ⟨3, 0, [97]⟩⟩]⟩ = true ∧ atomT ⟨[112], [⟨[88], zeroV⟩, ⟨[], ⟨1, 1, []⟩⟩, ⟨[], ⟨3, 0, [97]⟩⟩]⟩ = [112, 40, 88, 44, 32, 49, 44, 32, 34, 97, 34, 41] := by decide +kernel
theorem wkB : atmB ⟨[112], [⟨[88], zeroV⟩, ⟨[], ⟨1, 1, []⟩⟩, ⟨[], ⟨3, 0, [97]⟩⟩]⟩ := ⟨by decide, by decide, fun t ht => by
  simp only [List.mem_cons, List.mem_nil_iff, or_false] at ht
  rcases ht with rfl | rfl | rfl <;> exact ⟨by decide, by decide⟩⟩
theorem wkXB : opsB wkX := ⟨by decide, fun t ht => by
  simp only [wkX, List.mem_cons, List.mem_nil_iff, or_false] at ht
  rcases ht with rfl | rfl | rfl | rfl | rfl <;> exact ⟨by decide, by decide⟩⟩
end Go.PV
namespace Go.PV
open Go
/-! law 14: small things -/
def varGo (acc : List Bs) (t : Trm) : List Bs := if t.v ≠ [] ∧ t.v ∉ acc then acc ++ [t.v] else acc
def varsS (l : List Trm) : List Bs := l.foldl varGo []
theorem varGo_ne {acc : List Bs} (h : acc ≠ []) (t : Trm) : varGo acc t ≠ [] := by
  unfold varGo; split
  · simp
  · exact h
theorem vars_ne : ∀ (l : List Trm) {acc : List Bs}, acc ≠ [] → l.foldl varGo acc ≠ []
  | [], _, h => h
  | t :: r, _, h => vars_ne r (varGo_ne h t)
theorem vars_free (a : Atm) : decide (0 < (varsS a.a).length) = !free a := by
  obtain ⟨n, l⟩ := a
  unfold free varsS
  dsimp only
  induction l with
  | nil => rfl
  | cons t r ih =>
    rw [List.foldl_cons, List.all_cons]
    by_cases ht : t.v = []
    · have e : varGo [] t = [] := by unfold varGo; rw [if_neg (fun h => h.1 ht)]
      rw [e, ih, decide_eq_true ht, Bool.true_and]
    · have e : varGo [] t = [t.v] := by unfold varGo; rw [if_pos ⟨ht, by simp⟩]; rfl
      rw [e, decide_eq_false ht, Bool.false_and, Bool.not_false, decide_eq_true_iff]
      exact List.length_pos_iff.2 (vars_ne r (by simp))
theorem foldl_snoc {α β : Type} (f : β → α → β) (b : β) (l : List α) {k : Nat} (h : k < l.length) : (l.take (k + 1)).foldl f b = f ((l.take k).foldl f b) l[k] := by
  rw [← List.take_append_getElem h, List.foldl_append]; rfl
theorem factT_nil {f : Fct} (h : f.a = []) : factT f = f.n := atomT_nil (a := f.at) (by unfold Fct.at; rw [h]; rfl)
theorem factT_join {f : Fct} (h : f.a ≠ []) : f.n ++ [40] ++ Lib.join (f.a.map textV) [44, 32] ++ [41] = factT f := by
  have := atomT_join (a := f.at) (by unfold Fct.at; simp [h])
  rw [← factT] at this
  rw [← this]
  unfold Fct.at
  rw [List.map_map]
  rfl
theorem flatMap_snoc' {α : Type} (f : α → Bs) (l : List α) {k : Nat} (h : k < l.length) : (l.take (k + 1)).flatMap f = (l.take k).flatMap f ++ f l[k] := by
  rw [← List.take_append_getElem h, List.flatMap_append]; simp
theorem traceT_len {l : List Fct} (h : l.all factOk = true) : (traceT l).length ≤ 702 * l.length := by
  induction l with
  | nil => exact Nat.le_refl _
  | cons f r ih =>
    rw [List.all_cons, Bool.and_eq_true] at h
    have h1 := ih h.2
    have h2 := factT_len h.1
    simp only [traceT, List.flatMap_cons, List.length_append, List.length_cons, List.length_nil] at h1 ⊢
    omega
def fctH (f : Fct) : Bool := decide (200 < f.n.length) || decide (20 < f.a.length) || f.a.any fun v => decide (200 < v.s.length)
def fctsH (l : List Fct) : Bool := decide (250 < l.length) || l.any fctH
def fctB (f : Fct) : Prop := f.n.length ≤ 1000000 ∧ f.a.length ≤ 1000000 ∧ ∀ v ∈ f.a, v.s.length ≤ 1000000
theorem fctsH_B {l : List Fct} (h : fctsH l = false) : l.length ≤ 250 ∧ ∀ f ∈ l, fctB f := by
  unfold fctsH fctH at h
  simp at h
  obtain ⟨h1, h2⟩ := h
  refine ⟨h1, fun f hf => ?_⟩
  obtain ⟨⟨h3, h4⟩, h5⟩ := h2 f hf
  exact ⟨by omega, by omega, fun v hv => by have := h5 v hv; omega⟩
theorem check_len {v : Val} (h : checkS v = true) : v.s.length ≤ 60 := by
  rcases check_cases h with ⟨_, _, h3, _⟩ | ⟨_, _, h3, _⟩ | ⟨_, _, h3, _⟩
  · rw [h3]; exact Nat.zero_le _
  · simp [symbolS] at h3; omega
  · simp [plainS] at h3; omega
theorem factOk_B {f : Fct} (h : factOk f = true) : fctB f := by
  unfold factOk at h
  simp only [Bool.and_eq_true, decide_eq_true_eq, List.all_eq_true] at h
  have hn := nameS_word h.1.1
  simp [refWordS] at hn
  exact ⟨by omega, by omega, fun v hv => by have := check_len (h.2 v hv); omega⟩
end Go.PV
