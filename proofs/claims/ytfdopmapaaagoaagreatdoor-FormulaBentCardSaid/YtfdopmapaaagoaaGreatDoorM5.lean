/- Part of the proof. -/
import Derived.Test.YtfdopmapaaagoaaGreatDoorM4
set_option linter.unusedVariables false
set_option linter.unusedSimpArgs false
namespace Go.PV
open Go
/-! law 14: traces, written and read -/
theorem eventS_back {l : List Tok} {i : Nat} {f : Fct} {b : Bs} {m : List KT} (h : factOk f = true) (hr : (l.drop i).map kt = (atomK b f.at).map (·.2) ++ (5, [46]) :: m) : eventS l i = (f, i + (atomK b f.at).length + 1, 0) := by
  have e := readA_back (l := l) (i := i) (a := f.at) (b := b) (m := (5, [46]) :: m) (by rw [at_ok]; exact h) hr (fun _ => by simp)
  have hg : ∃ t, l[i + (atomK b f.at).length]? = some t ∧ kt t = (5, [46]) := by
    have h1 : ((l.drop i).map kt)[(atomK b f.at).length]? = some (5, [46]) := by
      rw [hr, List.getElem?_append_right (by simp)]; simp
    rw [List.getElem?_map, List.getElem?_drop, Option.map_eq_some_iff] at h1
    exact h1
  obtain ⟨t, ht, hk⟩ := hg
  simp only [kt, Prod.mk.injEq] at hk
  unfold eventS
  rw [e]
  dsimp only
  rw [if_neg (by simp), at_free, if_neg (by simp), ht]
  dsimp only
  rw [if_pos hk, at_gr]
theorem rest_add {l : List Tok} {i : Nat} {x m : List KT} (h : (l.drop i).map kt = x ++ m) : (l.drop (i + x.length)).map kt = m := by
  rw [← List.drop_drop, List.map_drop, h, List.drop_left]
theorem traceGo_back : ∀ (fs : List Fct) (l : List Tok) (b : Bs) (i f : Nat), fs.all factOk = true → (l.drop i).map kt = (traceK b fs).map (·.2) → fs.length ≤ f → traceGo l f i = (fs, none) ∧ traceAt l fs.length i = i + (traceK b fs).length
  | [], l, b, i, f, _, hr, _ => by
    have hd : l.drop i = [] := by simpa [traceK] using hr
    have hi := List.drop_eq_nil_iff.1 hd
    refine ⟨?_, rfl⟩
    cases f with
    | zero => rfl
    | succ f => rw [traceGo, if_neg (by omega)]
  | g :: r, l, b, i, f, hk, hr, hf => by
    rw [List.all_cons, Bool.and_eq_true] at hk
    obtain ⟨f, rfl⟩ : ∃ f', f = f' + 1 := ⟨f - 1, by simp at hf; omega⟩
    have hr2 : (l.drop i).map kt = (atomK b g.at).map (·.2) ++ (5, [46]) :: (traceK [10] r).map (·.2) := by rw [hr, traceK]; simp
    have e := eventS_back hk.1 hr2
    have hi : i < l.length := by
      rcases Nat.lt_or_ge i l.length with h | h
      · exact h
      · rw [List.drop_eq_nil_iff.2 h] at hr2; simp at hr2
    have hr3 : (l.drop (i + (atomK b g.at).length + 1)).map kt = (traceK [10] r).map (·.2) := by
      have := rest_add (x := (atomK b g.at).map (·.2) ++ [(5, [46])]) (m := (traceK [10] r).map (·.2)) (by rw [hr2]; simp)
      simpa [Nat.add_assoc] using this
    obtain ⟨i1, i2⟩ := traceGo_back r l [10] _ f hk.2 hr3 (by simp at hf; omega)
    rw [traceGo, if_pos hi, e]
    dsimp only
    rw [if_pos rfl, i1]
    refine ⟨rfl, ?_⟩
    rw [List.length_cons, traceAt, e]
    dsimp only
    rw [i2, traceK, List.length_append, List.length_cons]; omega
/-- the signs of a trace's text -/
theorem toks_trace {l : List Fct} (h : l.all factOk = true) : errR (traceT l) = 0 ∧ (toksR (traceT l)).map kt = (traceK [] l).map (·.2) ∧ toksR (traceT l) = posL (traceT l) 0 (traceK [] l) := by
  by_cases hl : l = []
  · subst hl; exact ⟨rfl, rfl, rfl⟩
  · have hw := wov_trace l [] [10] h rfl rfl
    obtain ⟨h1, h2, _⟩ := wovK_R hw rfl
    rw [weave_trace l [] hl, List.nil_append] at h1 h2
    exact ⟨h2, by rw [h1, posL_kt], h1⟩
theorem traceK_len : ∀ (l : List Fct) (b : Bs), l.length ≤ (traceK b l).length
  | [], b => Nat.zero_le _
  | f :: r, b => by have := traceK_len r [10]; rw [traceK, List.length_append, List.length_cons, List.length_cons]; omega
theorem parse_trace {l : List Fct} (h : l.all factOk = true) : parseT (traceT l) = if 200 < l.length then ([], placeT (toksR (traceT l)) (traceAt (toksR (traceT l)) 200 0), 2) else (l, (0, 0), 0) := by
  obtain ⟨h1, h2, _⟩ := toks_trace h
  have hlen : (toksR (traceT l)).length = (traceK [] l).length := by have := congrArg List.length h2; simpa using this
  have hb := traceGo_back l (toksR (traceT l)) [] 0 (toksR (traceT l)).length h (by rw [List.drop_zero]; exact h2) (by rw [hlen]; exact traceK_len l [])
  unfold parseT
  rw [if_pos h1]
  dsimp only
  rw [hb.1]
theorem traceGo_ok (l : List Tok) : ∀ (f i : Nat), (∀ x ∈ (traceGo l f i).1, factOk x = true) ∧ ∀ n, (traceGo l f i).2 = some n → i ≤ l.length → n ≤ l.length ∧ 0 < l.length
  | 0, i => ⟨fun x hx => by simp [traceGo] at hx, fun n h => by simp [traceGo] at h⟩
  | f + 1, i => by
    rw [traceGo]
    split
    · rename_i hi
      have hp := eventS_place (l := l) (i := i) (by omega)
      dsimp only
      split
      · rename_i h0
        obtain ⟨e1, e2, e3⟩ := eventS_ok h0
        obtain ⟨i1, i2⟩ := traceGo_ok l f (eventS l i).2.1
        refine ⟨fun x hx => ?_, fun n hn _ => i2 n hn hp.2.1⟩
        rcases List.mem_cons.1 hx with rfl | hx
        · exact e1
        · exact i1 x hx
      · refine ⟨fun x hx => by simp at hx, fun n hn _ => ?_⟩
        simp only [Option.some.injEq] at hn
        exact ⟨by omega, by omega⟩
    · exact ⟨fun x hx => by simp at hx, fun n hn => by simp at hn⟩
/-- places in a text -/
theorem toks_pos (s : Bs) : ∀ t ∈ toksR s, 1 ≤ t.p.1 ∧ 1 ≤ t.p.2 := by
  have go : ∀ (l : List Tok) (lo : Nat), Chain s lo l → ∀ t ∈ l, 1 ≤ t.p.1 ∧ 1 ≤ t.p.2 := by
    intro l
    induction l with
    | nil => intro lo _ t ht; cases ht
    | cons u l ih =>
      rintro lo ⟨i, h1, h2, h3, h4, h5, h6⟩ t ht
      rcases List.mem_cons.1 ht with rfl | ht
      · have := posS_le s i (by omega)
        rw [h4]; exact ⟨this.1, this.2.2.1⟩
      · exact ih _ h6 t ht
  exact go _ 0 (chain_R s)
theorem placeT_pos {l : List Tok} (h : ∀ t ∈ l, 1 ≤ t.p.1 ∧ 1 ≤ t.p.2) (hl : 0 < l.length) (n : Nat) : 1 ≤ (placeT l n).1 ∧ 1 ≤ (placeT l n).2 := by
  unfold placeT
  split
  · rename_i t ht; exact h t (List.mem_of_getElem? ht)
  · have hk : l.length - 1 < l.length := by omega
    rw [List.getLast?_eq_getElem?, List.getElem?_eq_getElem hk]
    have := h _ (List.getElem_mem hk)
    dsimp only; omega
theorem parseT_cases (s : Bs) : ((parseT s).2.2 = 0 ∧ (parseT s).2.1 = (0, 0) ∧ traceOk (parseT s).1 = 0) ∨ ((parseT s).2.2 ≠ 0 ∧ (parseT s).1 = [] ∧ 1 ≤ (parseT s).2.1.1 ∧ 1 ≤ (parseT s).2.1.2) := by
  unfold parseT
  by_cases he : errR s = 0
  · rw [if_pos he]
    dsimp only
    obtain ⟨g1, g2⟩ := traceGo_ok (toksR s) (toksR s).length 0
    cases hx : (traceGo (toksR s) (toksR s).length 0).2 with
    | some n =>
      obtain ⟨_, hl⟩ := g2 n hx (Nat.zero_le _)
      have := placeT_pos (toks_pos s) hl n
      exact .inr ⟨by dsimp only; omega, rfl, this.1, this.2⟩
    | none =>
      dsimp only
      by_cases hq : 200 < (traceGo (toksR s) (toksR s).length 0).1.length
      · rw [if_pos hq]
        have hl : 0 < (toksR s).length := by
          rcases Nat.eq_zero_or_pos (toksR s).length with h | h
          · rw [h] at hq; simp [traceGo] at hq
          · exact h
        have := placeT_pos (toks_pos s) hl (traceAt (toksR s) 200 0)
        exact .inr ⟨by dsimp only; omega, rfl, this.1, this.2⟩
      · rw [if_neg hq]
        refine .inl ⟨rfl, rfl, ?_⟩
        unfold traceOk
        rw [if_neg hq, if_pos (List.all_eq_true.2 g1)]
  · rw [if_neg he]
    rcases errR_cases s with h | ⟨h1, _, k, hk, hp⟩
    · exact absurd h he
    · have := posS_le s k (by omega)
      exact .inr ⟨he, rfl, by dsimp only; rw [hp]; omega, by dsimp only; rw [hp]; omega⟩
/-! how long a trace's text can be that is read of a text -/
def ln (l : List Tok) (i : Nat) : Nat := lens (l.take i)
theorem ln_succ {l : List Tok} {i : Nat} (h : i < l.length) : ln l (i + 1) = ln l i + l[i].t.length := by
  unfold ln lens; rw [← List.take_append_getElem h, List.map_append, List.sum_append]; simp
theorem ln_le (l : List Tok) (i : Nat) : ln l i ≤ lens l := by
  unfold ln lens
  conv => rhs; rw [← List.take_append_drop i l]
  rw [List.map_append, List.sum_append]; omega
theorem parse_len {t : Bs} {v : Val} (h : parseS t = some v) : (textV v).length ≤ t.length := by rw [(parse_some h).2]; exact Nat.le_refl _
theorem dec_len (u : Nat) : 1 ≤ (Lib.decDigits u).length := by
  obtain ⟨c, r, e, _⟩ := dec_cons u; rw [e]; simp
theorem number_len {t : Bs} {v : Val} (h : numberS t = some v) : (textV v).length ≤ t.length := by
  unfold numberS at h
  have hrl : (numRest t).length + (if hasP t [45] then 1 else 0) = t.length := by
    unfold numRest
    split
    · rename_i hp
      have := hasP_len hp
      rw [List.length_drop]; simp only [List.length_cons, List.length_nil] at this; omega
    · rfl
  split at h
  · cases h
  · rename_i h0
    split at h
    · cases h
      have : numRest t ≠ [] := fun e => h0 (.inl e)
      have := List.length_pos_iff.2 this
      have e : textV ⟨1, 0, []⟩ = [48] := by decide +kernel
      rw [e]; simp only [List.length_cons, List.length_nil]; omega
    · have ht : (trim0 (numRest t)).length ≤ (numRest t).length := by unfold trim0; exact (List.dropWhile_suffix _).length_le
      have := parse_len h
      split at this
      · rename_i hp; rw [if_pos hp] at hrl; simp only [List.length_cons] at this; omega
      · omega
theorem value_len {x : KT} {t : Trm} (h : valueS x = some t) : (termT t).length ≤ x.2.length := by
  unfold valueS at h
  split at h
  · split at h
    · rename_i hv
      cases h
      unfold termT; rw [if_neg (varS_ne hv)]; exact Nat.le_refl _
    · cases h
  · split at h
    · rw [Option.map_eq_some_iff] at h
      obtain ⟨v, h, rfl⟩ := h
      unfold termT; rw [if_pos rfl]; exact number_len h
    · split at h
      · rename_i v hv
        split at h
        · cases h
          unfold termT; rw [if_pos rfl]; exact parse_len hv
        · cases h
      · cases h
namespace Rd
theorem cur_get {r : Rd} {x : KT} (h : r.cur = some x) : ∃ hi : r.i < r.l.length, kt r.l[r.i] = x := by
  have hi := cur_lt h
  unfold cur at h
  rw [List.getElem?_eq_getElem hi] at h
  exact ⟨hi, by simpa using h⟩
theorem term_ln {r : Rd} (h : r.term.2.isOpen = true) : ln r.l r.i + (termT r.term.1).length ≤ ln r.l r.term.2.i := by
  obtain ⟨h1, h2, h3, h4⟩ := term_open h
  rw [h3]
  show _ ≤ ln r.l (r.i + 1)
  rw [ln_succ h4]
  unfold term at h ⊢
  rw [if_pos h1] at h ⊢
  split at h
  · rename_i t ht
    rw [Option.bind_eq_some_iff] at ht
    obtain ⟨x, hx, hv⟩ := ht
    obtain ⟨hi, e⟩ := cur_get hx
    have := value_len hv
    rw [← e] at this
    have : (termT t).length ≤ r.l[r.i].t.length := this
    show ln r.l r.i + (termT t).length ≤ _
    omega
  · simp [fail, isOpen] at h
theorem name_ln {r : Rd} (h : r.name.2.isOpen = true) : ln r.l r.i + r.name.1.length ≤ ln r.l r.name.2.i := by
  obtain ⟨h1, h2, h3, h4⟩ := name_open h
  rw [h3]
  show _ ≤ ln r.l (r.i + 1)
  rw [ln_succ h4]
  unfold name at h ⊢
  rw [if_pos h1] at h ⊢
  split at h
  · rename_i x hx
    obtain ⟨hi, e⟩ := cur_get hx
    split at h
    · rename_i hc
      rw [if_pos hc]
      have : x.2 = r.l[r.i].t := by rw [← e]
      show ln r.l r.i + x.2.length ≤ _
      rw [this]; omega
    · simp [fail, isOpen] at h
  · simp [fail, isOpen] at h
theorem see_ln {r : Rd} {k : Int} {t : Bs} (h : r.see k t = true) : ln r.l (r.i + 1) = ln r.l r.i + t.length := by
  obtain ⟨hi, e⟩ := cur_get (see_open h).2
  rw [ln_succ hi]
  have : r.l[r.i].t = t := congrArg Prod.snd e
  rw [this]
theorem want_ln {r : Rd} {k : Int} {t : Bs} (h : (r.want k t).isOpen = true) : ln r.l (r.want k t).i = ln r.l r.i + t.length := by
  unfold want at h ⊢
  split at h
  · rename_i hs; rw [if_pos hs]; exact see_ln hs
  · split at h
    · simp [fail, isOpen] at h
    · rename_i ho; exact absurd h ho
theorem args_ln : ∀ (f : Nat) (r : Rd), ((args f r).2.want 5 [41]).isOpen = true → 2 * ln r.l r.i + (weaveK (tailK (args f r).1)).length + 1 ≤ 2 * ln r.l ((args f r).2.want 5 [41]).i
  | 0, r, h => by
    have := want_ln h
    simp only [args, tailK, weaveK, List.length_append, List.length_cons, List.length_nil] at this ⊢; omega
  | f + 1, r, h => by
    unfold args at h ⊢
    split at h
    · rename_i hs
      rw [if_pos hs]
      dsimp only at h ⊢
      have ih := args_ln f _ h
      have hta := (args_open f _ (want_open h).1).1
      have ht := term_ln hta
      have h1 := see_ln hs
      have hl := (term_l r.step).1
      have hl2 : r.step.l = r.l := rfl
      rw [hl, hl2] at ih
      rw [hl2] at ht
      have h2 : ln r.l r.step.i = ln r.l (r.i + 1) := rfl
      simp only [tailK, weaveK, termK_T, List.length_append, List.length_cons, List.length_nil] at h1 ⊢
      omega
    · rename_i hs
      rw [if_neg hs]
      have := want_ln h
      simp only [tailK, weaveK, List.length_append, List.length_cons, List.length_nil] at this ⊢; omega
theorem weave_take5 : ∀ (l : List Trm) (n : Nat), (weaveK (tailK (l.take n))).length ≤ (weaveK (tailK l)).length
  | l, 0 => by
    cases l <;> simp [tailK, weaveK]
  | [], n + 1 => by simp
  | t :: r, n + 1 => by
    have := weave_take5 r n
    simp only [List.take_succ_cons, tailK, weaveK, List.length_append] at this ⊢; omega
theorem atom_ln {r : Rd} (h : r.atom.2.isOpen = true) : 2 * ln r.l r.i + (atomT r.atom.1).length ≤ 2 * ln r.l r.atom.2.i := by
  cases hs : r.name.2.see 5 [40] with
  | false =>
    rw [atom_no hs] at h ⊢
    have := name_ln h
    rw [atomT_nil rfl]; dsimp only; omega
  | true =>
    rw [atom_yes hs] at h ⊢
    have hno := (see_open hs).1
    have h1 := name_ln hno
    have hl := (name_l r).1
    have hl1 := (term_l r.name.2.step).1
    have hw : ((args r.name.2.l.length r.name.2.step.term.2).2.want 5 [41]).isOpen = true := by
      split at h
      · exact h
      · exact h
    have h2 := args_ln _ _ hw
    have h3 := term_ln (args_open _ _ (want_open hw).1).1
    have h4 := see_ln hs
    have e1 : r.name.2.step.l = r.l := hl
    rw [hl1, e1] at h2
    rw [e1] at h3
    rw [hl] at h4
    have h5 := weave_take5 (args r.name.2.l.length r.name.2.step.term.2).1 4
    have e2 : ln r.l r.name.2.step.i = ln r.l (r.name.2.i + 1) := rfl
    have key : 2 * ln r.l r.i + (atomT ⟨r.name.1, (r.name.2.step.term.1 :: (args r.name.2.l.length r.name.2.step.term.2).1).take 5⟩).length ≤ 2 * ln r.l ((args r.name.2.l.length r.name.2.step.term.2).2.want 5 [41]).i := by
      unfold atomT atomK argsK
      simp only [List.take_succ_cons, weaveK, termK_T, List.length_append, List.length_cons, List.length_nil] at h4 ⊢
      omega
    dsimp only
    split <;> exact key
end Rd
theorem event_ln {l : List Tok} {i : Nat} (h : (eventS l i).2.2 = 0) : 2 * ln l i + (factT (eventS l i).1).length + 2 ≤ 2 * ln l (eventS l i).2.1 := by
  unfold eventS at *
  dsimp only at h ⊢
  by_cases h0 : (readA l i).2.2 = 0
  · rw [if_neg (by omega)] at h ⊢
    cases hf : free (readA l i).1 with
    | false => rw [hf, if_pos rfl] at h; cases h
    | true =>
      rw [hf, if_neg (by simp)] at h
      rw [if_neg (by simp)]
      cases hg : l[(readA l i).2.1]? with
      | none => rw [hg] at h; cases h
      | some t =>
        rw [hg] at h
        dsimp only at h ⊢
        obtain ⟨hlt, hte⟩ := List.getElem?_eq_some_iff.1 hg
        split at h
        · rename_i ht
          rw [if_pos ht]
          dsimp only
          rw [ln_succ hlt, hte, ht.2]
          have e : factT (readA l i).1.gr = atomT (readA l i).1 := by unfold factT; rw [gr_at hf]
          rw [e]
          have key : 2 * ln l i + (atomT (readA l i).1).length ≤ 2 * ln l (readA l i).2.1 := by
            unfold readA at h0 ⊢
            dsimp only at h0 ⊢
            obtain ⟨h1, h2, h3⟩ := endE_0 h0
            rw [if_pos h0, h3]
            exact Rd.atom_ln h1
          simp only [List.length_cons, List.length_nil]; omega
        · cases h
  · rw [if_pos h0] at h; cases h
theorem traceGo_ln (l : List Tok) : ∀ (f i : Nat), 2 * ln l i + (traceT (traceGo l f i).1).length ≤ 2 * lens l
  | 0, i => by
    have := ln_le l i
    simp only [traceGo, traceT, List.flatMap_nil, List.length_nil]; omega
  | f + 1, i => by
    have := ln_le l i
    rw [traceGo]
    split
    · dsimp only
      split
      · rename_i h0
        have h1 := event_ln h0
        have h2 := traceGo_ln l f (eventS l i).2.1
        simp only [traceT, List.flatMap_cons, List.length_append, List.length_cons, List.length_nil] at h2 ⊢
        omega
      · simp only [traceT, List.flatMap_nil, List.length_nil]; omega
    · simp only [traceT, List.flatMap_nil, List.length_nil]; omega
/-- what is read of a text is no longer than twice as long -/
theorem parseT_len (s : Bs) : (traceT (parseT s).1).length ≤ 2 * s.length := by
  have h1 := chain_lens (chain_R s) (Nat.zero_le _)
  have h2 := traceGo_ln (toksR s) (toksR s).length 0
  have z : (traceT []).length = 0 := rfl
  unfold parseT
  by_cases he : errR s = 0
  · rw [if_pos he]
    dsimp only
    cases (traceGo (toksR s) (toksR s).length 0).2 with
    | some n => dsimp only; rw [z]; exact Nat.zero_le _
    | none =>
      dsimp only
      split
      · dsimp only; rw [z]; exact Nat.zero_le _
      · dsimp only; omega
  · rw [if_neg he]; dsimp only; rw [z]; exact Nat.zero_le _
end Go.PV
namespace Go.PV
open Go
/-! law 14: one event too many -/
theorem traceAt_pre : ∀ (x y : List Fct) (l : List Tok) (b : Bs) (i : Nat), x.all factOk = true → (l.drop i).map kt = (traceK b (x ++ y)).map (·.2) → traceAt l x.length i = i + (traceK b x).length
  | [], y, l, b, i, _, _ => rfl
  | g :: r, y, l, b, i, hk, hr => by
    rw [List.all_cons, Bool.and_eq_true] at hk
    have hr2 : (l.drop i).map kt = (atomK b g.at).map (·.2) ++ (5, [46]) :: (traceK [10] (r ++ y)).map (·.2) := by rw [hr, List.cons_append, traceK]; simp
    have e := eventS_back hk.1 hr2
    have hr3 : (l.drop (i + (atomK b g.at).length + 1)).map kt = (traceK [10] (r ++ y)).map (·.2) := by
      have := rest_add (x := (atomK b g.at).map (·.2) ++ [(5, [46])]) (m := (traceK [10] (r ++ y)).map (·.2)) (by rw [hr2]; simp)
      simpa [Nat.add_assoc] using this
    have ih := traceAt_pre r y l [10] _ hk.2 hr3
    rw [List.length_cons, traceAt, e]
    dsimp only
    rw [ih, traceK, List.length_append, List.length_cons]; omega
theorem traceK_app : ∀ (x y : List Fct) (b : Bs), x ≠ [] → traceK b (x ++ y) = traceK b x ++ traceK [10] y
  | [], _, _, h => absurd rfl h
  | [g], y, b, _ => by simp [traceK]
  | g :: h :: r, y, b, _ => by
    have ih := traceK_app (h :: r) y [10] (by simp)
    have e : traceK b (g :: h :: r) = atomK b g.at ++ ([], (5, [46])) :: traceK [10] (h :: r) := rfl
    rw [List.cons_append, traceK, ih, e]; simp
theorem posL_app (w : Bs) : ∀ (a b : List (Bs × KT)) (i : Nat), posL w i (a ++ b) = posL w i a ++ posL w (i + (weaveK a).length) b
  | [], b, i => by simp [posL, weaveK]
  | (x, t) :: r, b, i => by
    simp only [List.cons_append, posL, weaveK, posL_app w r b, List.length_append]
    rw [Nat.add_assoc, Nat.add_assoc, Nat.add_assoc]
theorem traceT_app (x y : List Fct) : traceT (x ++ y) = traceT x ++ traceT y := List.flatMap_append
/-- where the first event behind some begins -/
theorem place_app {x y : List Fct} (hx : x ≠ []) (hy : y ≠ []) (h : (x ++ y).all factOk = true) : placeT (toksR (traceT (x ++ y))) (traceAt (toksR (traceT (x ++ y))) x.length 0) = posS (traceT x) := by
  obtain ⟨_, h2, h3⟩ := toks_trace h
  have hxo : x.all factOk = true := by rw [List.all_append, Bool.and_eq_true] at h; exact h.1
  have ha := traceAt_pre x y (toksR (traceT (x ++ y))) [] 0 hxo (by rw [List.drop_zero]; exact h2)
  rw [ha, Nat.zero_add, h3, traceK_app x y [] hx, posL_app]
  obtain ⟨g, r, rfl⟩ := List.exists_cons_of_ne_nil hy
  have hl : (posL (traceT (x ++ g :: r)) 0 (traceK [] x)).length = (traceK [] x).length := posL_len _ _ _
  unfold placeT
  rw [List.getElem?_append_right (by rw [hl]; exact Nat.le_refl _), hl, Nat.sub_self]
  have e : ∃ m, traceK [10] (g :: r) = ([10], (1, g.n)) :: m := ⟨_, rfl⟩
  obtain ⟨m, e⟩ := e
  rw [e]
  have hw := weave_trace x [] hx
  have hwl := congrArg List.length hw
  simp only [List.nil_append, List.length_append, List.length_cons, List.length_nil] at hwl
  show posS ((traceT (x ++ g :: r)).take (0 + (weaveK (traceK [] x)).length + 1)) = _
  rw [traceT_app, Nat.zero_add, hwl, List.take_left]
def pF : Fct := ⟨[112], []⟩
def pN (m : Nat) : List Fct := List.replicate m pF
theorem pN_ok (m : Nat) : (pN m).all factOk = true := List.all_eq_true.2 fun x hx => by
  rw [List.eq_of_mem_replicate hx]; decide +kernel
theorem pN_succ (m : Nat) : traceT (pN (m + 1)) = traceT (pN m) ++ [112, 46, 10] := by
  have : pN (m + 1) = pN m ++ [pF] := List.replicate_succ'
  rw [this, traceT_app]; rfl
theorem pN_len (m : Nat) : (traceT (pN m)).length = 3 * m := by
  induction m with
  | zero => rfl
  | succ m ih => rw [pN_succ, List.length_append, ih]; simp only [List.length_cons, List.length_nil]; omega
theorem posS_200 : posS (traceT (pN 200)) = (201, 1) := by decide +kernel
theorem parse_many (n : Nat) (h : 1 ≤ n) : parseT (traceT (pN (200 + n))) = ([], (201, 1), 2) := by
  have e : pN (200 + n) = pN 200 ++ pN n := (List.replicate_append_replicate).symm
  rw [parse_trace (pN_ok _), if_pos (by unfold pN; rw [List.length_replicate]; omega)]
  have hx : pN 200 ≠ [] := by decide
  have hy : pN n ≠ [] := by
    obtain ⟨m, rfl⟩ : ∃ m, n = m + 1 := ⟨n - 1, by omega⟩
    simp [pN, List.replicate_succ]
  have hl : (pN 200).length = 200 := List.length_replicate
  have hp := place_app hx hy (by rw [← e]; exact pN_ok _)
  rw [hl, ← e, posS_200] at hp
  rw [hp]
end Go.PV
namespace Go.PV
open Go
/-! law 14: a line ahead of a text -/
def upP (p : Int × Int) : Int × Int := (p.1 + 1, p.2)
def upT (t : Tok) : Tok := ⟨t.k, t.t, upP t.p⟩
theorem kt_up (t : Tok) : kt (upT t) = kt t := rfl
namespace Rd
def mv (pre : List Tok) (r : Rd) : Rd := ⟨pre ++ r.l.map upT, pre.length + r.i, r.bad, r.over, r.wrong⟩
variable (pre : List Tok)
theorem mv_cur (r : Rd) : (r.mv pre).cur = r.cur := by
  unfold cur mv
  dsimp only
  rw [List.getElem?_append_right (by omega), Nat.add_sub_cancel_left, List.getElem?_map]
  cases r.l[r.i]? <;> rfl
theorem mv_open (r : Rd) : (r.mv pre).isOpen = r.isOpen := rfl
theorem mv_step (r : Rd) : (r.mv pre).step = r.step.mv pre := rfl
theorem mv_fail (r : Rd) : (r.mv pre).fail = r.fail.mv pre := rfl
theorem mv_see (r : Rd) (k : Int) (t : Bs) : (r.mv pre).see k t = r.see k t := by unfold see; rw [mv_cur, mv_open]
theorem mv_want (r : Rd) (k : Int) (t : Bs) : (r.mv pre).want k t = (r.want k t).mv pre := by
  unfold want
  rw [mv_see, mv_open, mv_step, mv_fail]
  split
  · rfl
  · split <;> rfl
theorem mv_name (r : Rd) : (r.mv pre).name = (r.name.1, r.name.2.mv pre) := by
  unfold name
  rw [mv_cur, mv_open, mv_step, mv_fail]
  split
  · split
    · split <;> rfl
    · rfl
  · rfl
theorem mv_term (r : Rd) : (r.mv pre).term = (r.term.1, r.term.2.mv pre) := by
  unfold term
  rw [mv_cur, mv_open, mv_step, mv_fail]
  split
  · split <;> rfl
  · rfl
theorem mv_args : ∀ (f : Nat) (r : Rd), args f (r.mv pre) = ((args f r).1, (args f r).2.mv pre)
  | 0, r => rfl
  | f + 1, r => by
    rw [args, args, mv_see, mv_step, mv_term]
    dsimp only
    rw [mv_args f]
    split <;> rfl
theorem args_fuel : ∀ (f f' : Nat) (r : Rd), r.l.length ≤ f + r.i → r.l.length ≤ f' + r.i → args f r = args f' r := by
  have no : ∀ {r : Rd}, r.l.length ≤ r.i → r.see 5 [44] = false := fun {r} h => by
    cases hs : r.see 5 [44] with
    | false => rfl
    | true => have := cur_lt (see_open hs).2; omega
  intro f
  induction f with
  | zero =>
    intro f' r h _
    have := no (r := r) (by omega)
    cases f' with
    | zero => rfl
    | succ f' => rw [args, args, this]; rfl
  | succ f ih =>
    intro f' r h h'
    cases f' with
    | zero =>
      have := no (r := r) (by omega)
      rw [args, args, this]; rfl
    | succ f' =>
      have h1 := term_l r.step
      have e : r.step.l = r.l := rfl
      have e2 : r.step.i = r.i + 1 := rfl
      rw [args, args, ih f' r.step.term.2 (by rw [h1.1, e]; omega) (by rw [h1.1, e]; omega)]
theorem mv_brack (r : Rd) : (r.mv pre).brack = (r.brack.1, r.brack.2.mv pre) := by
  unfold brack
  dsimp only
  have h1 := term_l r.step
  have e : r.step.l = r.l := rfl
  rw [mv_step, mv_term]
  dsimp only
  have hl : (r.mv pre).l.length = pre.length + r.l.length := by simp [mv]
  rw [mv_args, hl, args_fuel (pre.length + r.l.length) r.l.length r.step.term.2 (by rw [h1.1, e]; omega) (by rw [h1.1, e]; omega), mv_want]
theorem mv_atom (r : Rd) : (r.mv pre).atom = (r.atom.1, r.atom.2.mv pre) := by
  unfold atom
  dsimp only
  rw [mv_name]
  dsimp only
  rw [mv_see, mv_brack]
  split
  · dsimp only
    split <;> rfl
  · rfl
end Rd
theorem mv_readA (pre l : List Tok) (i : Nat) : readA (pre ++ l.map upT) (pre.length + i) = ((readA l i).1, pre.length + (readA l i).2.1, (readA l i).2.2) := by
  unfold readA
  dsimp only
  have e : rd0 (pre ++ l.map upT) (pre.length + i) = (rd0 l i).mv pre := rfl
  rw [e, Rd.mv_atom]
  generalize (rd0 l i).atom = x
  dsimp only
  have h1 : (x.2.mv pre).endE = x.2.endE := rfl
  rw [h1]
  have h2 : (x.2.mv pre).endI (pre.length + i) = pre.length + x.2.endI i := by
    unfold Rd.endI Rd.mv
    dsimp only
    split
    · simp only [List.length_append, List.length_map]; omega
    · split <;> rfl
  rw [h2]
theorem mv_event (pre l : List Tok) (i : Nat) : eventS (pre ++ l.map upT) (pre.length + i) = ((eventS l i).1, pre.length + (eventS l i).2.1, (eventS l i).2.2) := by
  unfold eventS
  dsimp only
  rw [mv_readA]
  dsimp only
  split
  · rfl
  · split
    · rfl
    · rw [List.getElem?_append_right (by omega), Nat.add_sub_cancel_left, List.getElem?_map]
      cases l[(readA l i).2.1]? with
      | none => rfl
      | some t =>
        simp only [Option.map_some]
        have e : (upT t).k = t.k ∧ (upT t).t = t.t := ⟨rfl, rfl⟩
        rw [e.1, e.2]
        split <;> rfl
theorem mv_go (pre l : List Tok) : ∀ (f i : Nat), traceGo (pre ++ l.map upT) f (pre.length + i) = ((traceGo l f i).1, (traceGo l f i).2.map (pre.length + ·))
  | 0, i => rfl
  | f + 1, i => by
    rw [traceGo, traceGo]
    dsimp only
    rw [mv_event]
    dsimp only
    rw [mv_go pre l f]
    have e : (pre.length + i < (pre ++ l.map upT).length) = (i < l.length) := by simp
    simp only [e]
    split
    · split <;> rfl
    · rfl
theorem go_fuel (l : List Tok) : ∀ (f f' i : Nat), l.length ≤ f + i → l.length ≤ f' + i → traceGo l f i = traceGo l f' i := by
  intro f
  induction f with
  | zero =>
    intro f' i h _
    cases f' with
    | zero => rfl
    | succ f' => rw [traceGo, traceGo, if_neg (by omega)]
  | succ f ih =>
    intro f' i h h'
    cases f' with
    | zero => rw [traceGo, traceGo, if_neg (by omega)]
    | succ f' =>
      rw [traceGo, traceGo]
      dsimp only
      split
      · split
        · rename_i h0
          have := eventS_ok h0
          rw [ih f' _ (by omega) (by omega)]
        · rfl
      · rfl
def okL : Bs := [111, 107, 40, 49, 41, 46, 32, 37, 32, 110, 111, 116, 104, 105, 110, 103, 10]
theorem posS_up (u : Bs) : posS (okL ++ u) = upP (posS u) := by
  have go : ∀ (u : Bs) (p : Int × Int), u.foldl (fun p c => if c.toNat = 10 then (p.1 + 1, 1) else (p.1, p.2 + 1)) (upP p) = upP (u.foldl (fun p c => if c.toNat = 10 then (p.1 + 1, 1) else (p.1, p.2 + 1)) p) := by
    intro u
    induction u with
    | nil => intro p; rfl
    | cons c u ih =>
      intro p
      simp only [List.foldl_cons]
      rw [← ih]
      congr 1
      split <;> rfl
  unfold posS
  rw [List.foldl_append]
  exact go u (1, 1)
theorem toks_fuel (s : Bs) : ∀ (f f' i : Nat), s.length ≤ f + i → s.length ≤ f' + i → toksGo s f i = toksGo s f' i := by
  intro f
  induction f with
  | zero => intro f' i h _; rw [toksGo_end s 0 i (by omega), toksGo_end s f' i (by omega)]
  | succ f ih =>
    intro f' i h h'
    cases f' with
    | zero => rw [toksGo_end s 0 i (by omega), toksGo_end s (f + 1) i (by omega)]
    | succ f' =>
      rw [toksGo, toksGo]
      dsimp only
      split
      · split
        · rename_i h0
          have := nextS_pos h0
          rw [ih f' _ (by omega) (by omega)]
        · rfl
      · rfl
theorem toksGo_up (T : Bs) : ∀ (f i : Nat), toksGo (okL ++ T) f (17 + i) = ((toksGo T f i).1.map upT, (toksGo T f i).2.map upP)
  | 0, i => rfl
  | f + 1, i => by
    have hl : okL.length = 17 := rfl
    have hd : ∀ j, (okL ++ T).drop (17 + j) = T.drop j := fun j => by
      rw [← hl, List.drop_append, List.drop_eq_nil_of_le (by omega), List.nil_append, Nat.add_sub_cancel_left]
    have ht : (okL ++ T).take (17 + i) = okL ++ T.take i := by
      rw [← hl, List.take_append, List.take_of_length_le (by omega), Nat.add_sub_cancel_left]
    have e : (17 + i < (okL ++ T).length) = (i < T.length) := by rw [List.length_append, hl]; simp
    rw [toksGo, toksGo]
    dsimp only
    rw [hd, ht, posS_up]
    simp only [e, Nat.add_assoc, hd]
    rw [← Nat.add_assoc i, toksGo_up T f]
    split
    · split <;> rfl
    · rfl
theorem toksGo_step {s : Bs} {f i k n : Nat} {c : Int} (h : i < s.length) (hn : nextS (s.drop i) = (c, n, true)) (hb : blanksN false (s.drop (i + n)) = k) :
    toksGo s (f + 1) i = (⟨c, (s.drop i).take n, posS (s.take i)⟩ :: (toksGo s f (i + n + k)).1, (toksGo s f (i + n + k)).2) := by
  rw [toksGo, if_pos h]
  dsimp only
  rw [hn]
  dsimp only
  rw [hb, if_pos rfl]
def okTs : List Tok := [⟨1, [111, 107], (1, 1)⟩, ⟨5, [40], (1, 3)⟩, ⟨3, [49], (1, 4)⟩, ⟨5, [41], (1, 5)⟩, ⟨5, [46], (1, 6)⟩]
theorem toks_up (T : Bs) : toksS (okL ++ T) = (okTs ++ (toksS T).1.map upT, (toksS T).2.map upP) := by
  have hl : (okL ++ T).length = T.length + 12 + 5 := by rw [List.length_append]; show 17 + T.length = _; omega
  have h0 : blanksN false (okL ++ T) = 0 := rfl
  have s1 : nextS ((okL ++ T).drop 0) = (1, 2, true) := nextS_end (t := (1, [111, 107])) (r := [40, 49, 41, 46, 32, 37, 32, 110, 111, 116, 104, 105, 110, 103, 10] ++ T) (by unfold Tk; decide +kernel) rfl
  have s2 : nextS ((okL ++ T).drop 2) = (5, 1, true) := nextS_end (t := (5, [40])) (r := [49, 41, 46, 32, 37, 32, 110, 111, 116, 104, 105, 110, 103, 10] ++ T) (by unfold Tk; decide +kernel) rfl
  have s3 : nextS ((okL ++ T).drop 3) = (3, 1, true) := nextS_end (t := (3, [49])) (r := [41, 46, 32, 37, 32, 110, 111, 116, 104, 105, 110, 103, 10] ++ T) (by unfold Tk; decide +kernel) rfl
  have s4 : nextS ((okL ++ T).drop 4) = (5, 1, true) := nextS_end (t := (5, [41])) (r := [46, 32, 37, 32, 110, 111, 116, 104, 105, 110, 103, 10] ++ T) (by unfold Tk; decide +kernel) rfl
  have s5 : nextS ((okL ++ T).drop 5) = (5, 1, true) := nextS_end (t := (5, [46])) (r := [32, 37, 32, 110, 111, 116, 104, 105, 110, 103, 10] ++ T) (by unfold Tk; decide +kernel) rfl
  have b5 : blanksN false ((okL ++ T).drop (5 + 1)) = 11 + blanksN false T := by
    show blanksN false ([32, 37, 32, 110, 111, 116, 104, 105, 110, 103, 10] ++ T) = _
    simp [blanksN, blankB]; omega
  unfold toksS
  rw [hl, h0, toksGo_step (by omega) s1 (k := 0) rfl, toksGo_step (i := 0 + 2 + 0) (by omega) s2 (k := 0) rfl, toksGo_step (i := 0 + 2 + 0 + 1 + 0) (by omega) s3 (k := 0) rfl, toksGo_step (i := 0 + 2 + 0 + 1 + 0 + 1 + 0) (by omega) s4 (k := 0) rfl, toksGo_step (i := 0 + 2 + 0 + 1 + 0 + 1 + 0 + 1 + 0) (by omega) s5 b5]
  have e : 0 + 2 + 0 + 1 + 0 + 1 + 0 + 1 + 0 + 1 + (11 + blanksN false T) = 17 + blanksN false T := by omega
  rw [e, toksGo_up, toks_fuel T (T.length + 12) T.length _ (by omega) (by omega)]
  rfl
theorem hkk : okTs.map kt = (atomK [] (⟨[111, 107], [⟨1, 1, []⟩]⟩ : Fct).at).map (·.2) ++ [(5, [46])] := by decide +kernel
theorem place_up (l : List Tok) (j : Nat) (hne : l ≠ []) : placeT (okTs ++ l.map upT) (5 + j) = upP (placeT l j) := by
  unfold placeT
  rw [List.getElem?_append_right (by show 5 ≤ 5 + j; omega), show 5 + j - okTs.length = j from by show 5 + j - 5 = j; omega, List.getElem?_map]
  cases l[j]? with
  | some t => rfl
  | none =>
    simp only [Option.map_none]
    rw [List.getLast?_append, List.getLast?_map]
    cases hg : l.getLast? with
    | none => exact absurd (List.getLast?_eq_none_iff.1 hg) hne
    | some t => rfl
theorem go_up (l : List Tok) : traceGo (okTs ++ l.map upT) (okTs ++ l.map upT).length 0 = (⟨[111, 107], [⟨1, 1, []⟩]⟩ :: (traceGo l l.length 0).1, (traceGo l l.length 0).2.map (5 + ·)) := by
  have hlen : (okTs ++ l.map upT).length = l.length + 4 + 1 := by rw [List.length_append, List.length_map]; show 5 + l.length = _; omega
  have hev : eventS (okTs ++ l.map upT) 0 = (⟨[111, 107], [⟨1, 1, []⟩]⟩, 5, 0) := by
    have := eventS_back (l := okTs ++ l.map upT) (i := 0) (f := ⟨[111, 107], [⟨1, 1, []⟩]⟩) (b := []) (m := (l.map upT).map kt) (by decide +kernel) (by rw [List.drop_zero, List.map_append, hkk]; simp)
    rw [this]; rfl
  have hm := mv_go okTs l (l.length + 4) 0
  have e5 : okTs.length + 0 = 5 := rfl
  rw [e5] at hm
  rw [hlen, traceGo, if_pos (by omega)]
  dsimp only
  rw [hev]
  dsimp only
  rw [if_pos rfl, hm, go_fuel l (l.length + 4) l.length 0 (by omega) (by omega)]
  rfl
theorem parse_up {T : Bs} {p : Int × Int} {c : Int} (h : parseT T = ([], p, c)) (hc : c = 6 ∨ c = 7) : parseT (okL ++ T) = ([], upP p, c) := by
  have ht := toks_up T
  unfold parseT at h ⊢
  have e1 : errR (okL ++ T) = errR T := by unfold errR; rw [ht]; cases (toksS T).2 <;> rfl
  rw [e1]
  by_cases he : errR T = 0
  · rw [if_pos he] at h ⊢
    have hz : (toksS T).2 = none := by
      unfold errR at he
      cases hh : (toksS T).2 with
      | none => rfl
      | some p => rw [hh] at he; simp at he
    have e2 : toksR (okL ++ T) = okTs ++ (toksR T).map upT := by
      unfold toksR; rw [ht, hz]; rfl
    rw [e2]
    generalize toksR T = l at *
    dsimp only at h ⊢
    rw [go_up]
    cases hn : (traceGo l l.length 0).2 with
    | none =>
      rw [hn] at h
      dsimp only at h
      split at h
      · simp only [Prod.mk.injEq] at h; omega
      · simp only [Prod.mk.injEq] at h; omega
    | some j =>
      rw [hn] at h
      simp only [Prod.mk.injEq] at h
      obtain ⟨_, hp, hc7⟩ := h
      have hne : l ≠ [] := by
        rintro rfl
        rw [show traceGo [] ([] : List Tok).length 0 = ([], none) from rfl] at hn; cases hn
      simp only [Option.map_some]
      show ([], placeT (okTs ++ l.map upT) (5 + j), (7 : Int)) = _
      rw [place_up l j hne, hp, hc7]
  · rw [if_neg he] at h ⊢
    simp only [Prod.mk.injEq] at h
    obtain ⟨_, hp, hc⟩ := h
    have e2 : posR (okL ++ T) = upP (posR T) := by
      unfold posR; rw [ht]
      cases hz : (toksS T).2 with
      | none => exfalso; apply he; unfold errR; rw [hz]; rfl
      | some q => rfl
    rw [e2, hp, hc]
def okN : Nat → Bs
  | 0 => []
  | n + 1 => okN n ++ okL
theorem okN_succ : ∀ n, okN (n + 1) = okL ++ okN n
  | 0 => rfl
  | n + 1 => by
    show okN (n + 1) ++ okL = okL ++ (okN n ++ okL)
    rw [okN_succ n, List.append_assoc]
theorem okN_len : ∀ n, (okN n).length = 17 * n
  | 0 => rfl
  | n + 1 => by rw [okN, List.length_append, okN_len n]; show 17 * n + 17 = _; omega
theorem parse_lines {T : Bs} {p : Int × Int} {c : Int} (h : parseT T = ([], p, c)) (hc : c = 6 ∨ c = 7) : ∀ n : Nat, parseT (okN n ++ T) = ([], (p.1 + n, p.2), c)
  | 0 => by rw [show okN 0 ++ T = T from rfl, h]; simp
  | n + 1 => by
    rw [okN_succ, List.append_assoc, parse_up (parse_lines h hc n) hc]
    unfold upP
    simp only [Prod.mk.injEq, true_and, and_true]
    omega
def badS : List Bs := [[112, 40, 49, 41], [112, 40, 49, 44, 41, 46], [112, 40, 88, 41, 46], [113, 46, 32, 112, 40, 49, 44, 32, 88, 41, 46], [110, 111, 116, 40, 49, 41, 46], [112, 32, 49, 46], [49, 46], [112, 40, 49, 41, 46, 32, 46], [112, 40, 34, 97, 41, 46], [112, 40, 49, 44, 32, 50, 44, 32, 51, 44, 32, 52, 44, 32, 53, 44, 32, 54, 41, 46]]
def lineS : List Int := [1, 0, 0, 0, 0, 0, 0, 0, 0, 0]
def colS : List Int := [1, 5, 1, 4, 1, 3, 1, 7, 3, 1]
def whyS : List Int := [7, 7, 7, 7, 7, 7, 7, 7, 6, 7]
theorem bad_S : ((List.range 10).all fun k => decide ((parseT (badS.getD k [] ++ [10, 114, 46])).1.length = 0) && decide ((parseT (badS.getD k [] ++ [10, 114, 46])).2 = ((1 + lineS.getD k 0, colS.getD k 0), whyS.getD k 0)) && decide (whyS.getD k 0 = 6 ∨ whyS.getD k 0 = 7) && decide ((badS.getD k []).length ≤ 30)) = true := by decide +kernel
end Go.PV
namespace Go.PV
open Go
/-! rules -/
structure Cnd where
  k : Int
  a : Atm
  h : Int
  l : List Stp
  r : List Stp
abbrev Cnd.c (x : Cnd) : List V := [.int .i64 x.k, .str x.a.n, .sl 4 (trmV x.a.a), .int .i64 x.h, .sl 5 (stpV x.l), .sl 5 (stpV x.r)]
abbrev opsV (l : List (List Stp)) : List (List V) := l.map fun x => [.sl 5 (stpV x)]
structure Act where
  k : Int
  n : Bs
  a : List (List Stp)
  w : Int
abbrev Act.c (x : Act) : List V := [.int .i64 x.k, .str x.n, .sl 1 (opsV x.a), .int .i64 x.w]
abbrev cndV (l : List Cnd) : List (List V) := l.map Cnd.c
abbrev actV (l : List Act) : List (List V) := l.map Act.c
structure Rul where
  n : Bs
  p : Int
  c : List Cnd
  a : List Act
abbrev Rul.v (x : Rul) : List V := [.str x.n, .int .i64 x.p, .sl 6 (cndV x.c), .sl 4 (actV x.a)]
instance : DecidableEq Cnd := fun a b => decidable_of_iff (a.k = b.k ∧ a.a = b.a ∧ a.h = b.h ∧ a.l = b.l ∧ a.r = b.r) (by cases a; cases b; simp)
instance : DecidableEq Act := fun a b => decidable_of_iff (a.k = b.k ∧ a.n = b.n ∧ a.a = b.a ∧ a.w = b.w) (by cases a; cases b; simp)
instance : DecidableEq Rul := fun a b => decidable_of_iff (a.n = b.n ∧ a.p = b.p ∧ a.c = b.c ∧ a.a = b.a) (by cases a; cases b; simp)
def guardOk (c : Cnd) : Bool := decide (c.k = 3) && (decide (c.a.n = []) && (decide (c.a.a = []) && (decide (1 ≤ c.h ∧ c.h ≤ 4) && (exprOk c.l && exprOk c.r))))
def condOk (c : Cnd) : Bool := if c.k = 3 then guardOk c else (decide (c.k = 1 ∨ c.k = 2) && (decide (c.h = 0) && (decide (c.l = []) && decide (c.r = [])))) && atomOk c.a
def actOk (m : Int) (x : Act) : Bool :=
  if x.k = 1 then nameS x.n && (decide (x.w = 0) && (decide (x.a.length ≤ 5) && x.a.all exprOk))
  else if x.k = 2 then decide (x.n = []) && (decide (x.a = []) && decide (0 ≤ x.w ∧ x.w < m)) else false
def hasN (l : List Cnd) : Nat := (l.filter fun c => decide (c.k = 1)).length
def headK (l : List Cnd) : Int := match l with | c :: _ => c.k | [] => 0
def ruleOk (r : Rul) : Bool := nameS r.n && decide (-1000 ≤ r.p ∧ r.p ≤ 1000) && decide (1 ≤ r.c.length ∧ r.c.length ≤ 6) && decide (headK r.c = 1) && decide (1 ≤ r.a.length ∧ r.a.length ≤ 6) && r.c.all condOk && r.a.all (actOk (hasN r.c))
def cndB (c : Cnd) : Prop := c.a.n.length ≤ 1000000 ∧ c.a.a.length ≤ 1000000 ∧ (∀ t ∈ c.a.a, t.v.length ≤ 1000000 ∧ t.x.s.length ≤ 1000000) ∧ c.l.length ≤ 1000000 ∧ (∀ o ∈ c.l, o.v.length ≤ 1000000 ∧ o.x.s.length ≤ 1000000) ∧ c.r.length ≤ 1000000 ∧ (∀ o ∈ c.r, o.v.length ≤ 1000000 ∧ o.x.s.length ≤ 1000000)
def actB (x : Act) : Prop := x.n.length ≤ 1000000 ∧ x.a.length ≤ 1000000 ∧ ∀ l ∈ x.a, l.length ≤ 1000000 ∧ ∀ o ∈ l, o.v.length ≤ 1000000 ∧ o.x.s.length ≤ 1000000
def rulB (r : Rul) : Prop := r.n.length ≤ 1000000 ∧ r.c.length ≤ 1000000 ∧ (∀ c ∈ r.c, cndB c) ∧ r.a.length ≤ 1000000 ∧ ∀ x ∈ r.a, actB x
def wayL : List Bs := [[61], [33, 61], [60], [60, 61]]
def wayT (h : Int) : Bs := wayL.getD (h - 1).toNat []
def condT (c : Cnd) : Bs :=
  if c.k = 3 then [91] ++ exprT c.l ++ [32] ++ wayT c.h ++ [32] ++ exprT c.r ++ [93]
  else if c.k = 2 then [110, 111, 116, 32] ++ atomT c.a else atomT c.a
def actT (x : Act) : Bs :=
  if x.k = 2 then [100, 114, 111, 112, 32] ++ Lib.itoa x.w
  else if x.a = [] then [43] ++ x.n else [43] ++ x.n ++ [40] ++ Lib.join (x.a.map exprT) [44, 32] ++ [41]
def ruleT (r : Rul) : Bs := [114, 117, 108, 101, 32] ++ r.n ++ [32] ++ Lib.itoa r.p ++ [58, 32] ++ Lib.join (r.c.map condT) [44, 32] ++ [32, 45, 62, 32] ++ Lib.join (r.a.map actT) [44, 32] ++ [46]
def ruleE (r : Rul) : Int := if ruleOk r then (if 20000 < (ruleT r).length then 2 else 0) else 1
def ruleX (r : Rul) : Bs := if ruleE r = 0 then ruleT r else []
theorem join_le (b : Nat) : ∀ l : List Bs, (∀ x ∈ l, x.length ≤ b) → (Lib.join l [44, 32]).length ≤ (b + 2) * l.length
  | [], _ => by simp [Lib.join_nil]
  | x :: r, h => by
    rw [Lib.join_cons]
    have hx := h x (by simp)
    have : ∀ r : List Bs, (∀ p ∈ r, p.length ≤ b) → (Lib.joinTail [44, 32] r).length ≤ (b + 2) * r.length := fun r => by
      induction r with
      | nil => intro _; simp [Lib.joinTail]
      | cons x r ih =>
        intro hx
        have h1 := ih (fun p hp => hx p (by simp [hp]))
        have h2 := hx x (by simp)
        simp only [Lib.joinTail] at h1 ⊢
        simp only [List.map_cons, List.flatten_cons, List.length_append, List.length_cons, List.length_nil, Nat.mul_succ]
        omega
    have h1 := this r (fun p hp => h p (by simp [hp]))
    simp only [List.length_append, List.length_cons, Nat.mul_succ]
    omega
theorem wayT_len (h : Int) : (wayT h).length ≤ 2 := by
  unfold wayT wayL
  rcases (h - 1).toNat with _ | _ | _ | _ | k <;> simp
theorem condOk_3 {c : Cnd} (h : condOk c = true) (hk : c.k = 3) : c.a = zeroA ∧ 1 ≤ c.h ∧ c.h ≤ 4 ∧ exprOk c.l = true ∧ exprOk c.r = true := by
  unfold condOk at h
  rw [if_pos hk] at h
  unfold guardOk at h
  simp only [Bool.and_eq_true, decide_eq_true_eq] at h
  obtain ⟨_, h1, h2, h3, h4, h5⟩ := h
  obtain ⟨k, ⟨n, a⟩, hh, l, r⟩ := c
  exact ⟨by dsimp only at h1 h2; rw [h1, h2]; rfl, h3.1, h3.2, h4, h5⟩
theorem condOk_n {c : Cnd} (h : condOk c = true) (hk : ¬ c.k = 3) : (c.k = 1 ∨ c.k = 2) ∧ c.h = 0 ∧ c.l = [] ∧ c.r = [] ∧ atomOk c.a = true := by
  unfold condOk at h
  rw [if_neg hk] at h
  simp only [Bool.and_eq_true, decide_eq_true_eq] at h
  exact ⟨h.1.1, h.1.2.1, h.1.2.2.1, h.1.2.2.2, h.2⟩
theorem condT_len {c : Cnd} (h : condOk c = true) : (condT c).length ≤ 4000 := by
  unfold condT
  split
  · rename_i hk
    obtain ⟨_, _, _, h1, h2⟩ := condOk_3 h hk
    have := exprT_len h1
    have := exprT_len h2
    have := wayT_len c.h
    simp only [List.length_append, List.length_cons, List.length_nil]; omega
  · rename_i hk
    obtain ⟨_, _, _, _, h1⟩ := condOk_n h hk
    have := atomT_len h1
    split
    · simp only [List.length_append, List.length_cons, List.length_nil]; omega
    · omega
theorem actOk_1 {m : Int} {x : Act} (h : actOk m x = true) (hk : ¬ x.k = 2) : x.k = 1 ∧ nameS x.n = true ∧ x.w = 0 ∧ x.a.length ≤ 5 ∧ x.a.all exprOk = true := by
  unfold actOk at h
  split at h
  · rename_i h1
    simp only [Bool.and_eq_true, decide_eq_true_eq] at h
    exact ⟨h1, h.1, h.2.1, h.2.2.1, h.2.2.2⟩
  · cases h
theorem actOk_2 {m : Int} {x : Act} (h : actOk m x = true) (hk : x.k = 2) : x.n = [] ∧ x.a = [] ∧ 0 ≤ x.w ∧ x.w < m := by
  unfold actOk at h
  rw [if_neg (by omega), if_pos hk] at h
  simp only [Bool.and_eq_true, decide_eq_true_eq] at h
  exact ⟨h.1, h.2.1, h.2.2.1, h.2.2.2⟩
theorem name_len {s : Bs} (h : nameS s = true) : s.length ≤ 24 := by
  unfold nameS refWordS at h
  simp at h; omega
theorem actT_len {m : Int} {x : Act} (hm : m ≤ 1000) (h : actOk m x = true) : (actT x).length ≤ 10000 := by
  unfold actT
  split
  · rename_i hk
    obtain ⟨_, _, h1, h2⟩ := actOk_2 h hk
    have := itoa_len (n := x.w) (by unfold inR; rw [decide_eq_true_iff]; omega)
    simp only [List.length_append, List.length_cons, List.length_nil]; omega
  · rename_i hk
    obtain ⟨_, h1, _, h3, h4⟩ := actOk_1 h hk
    have := name_len h1
    split
    · simp only [List.length_append, List.length_cons, List.length_nil]; omega
    · have hj := join_le 1950 (x.a.map exprT) (fun p hp => by
        obtain ⟨l, hl, rfl⟩ := List.mem_map.1 hp
        exact exprT_len (List.all_eq_true.1 h4 l hl))
      rw [List.length_map] at hj
      simp only [List.length_append, List.length_cons, List.length_nil]; omega
theorem ruleOk_all {r : Rul} (h : ruleOk r = true) : nameS r.n = true ∧ -1000 ≤ r.p ∧ r.p ≤ 1000 ∧ 1 ≤ r.c.length ∧ r.c.length ≤ 6 ∧ headK r.c = 1 ∧ 1 ≤ r.a.length ∧ r.a.length ≤ 6 ∧ (∀ c ∈ r.c, condOk c = true) ∧ ∀ x ∈ r.a, actOk (hasN r.c) x = true := by
  unfold ruleOk at h
  simp only [Bool.and_eq_true, decide_eq_true_eq, List.all_eq_true] at h
  obtain ⟨⟨⟨⟨⟨⟨h1, h2⟩, h3⟩, h4⟩, h5⟩, h6⟩, h7⟩ := h
  exact ⟨h1, h2.1, h2.2, h3.1, h3.2, h4, h5.1, h5.2, h6, h7⟩
theorem hasN_len (l : List Cnd) : hasN l ≤ l.length := List.length_filter_le _ _
theorem ruleT_len {r : Rul} (h : ruleOk r = true) : (ruleT r).length ≤ 100000 ∧ (Lib.join (r.c.map condT) [44, 32]).length ≤ 30000 ∧ (Lib.join (r.a.map actT) [44, 32]).length ≤ 70000 ∧ (Lib.itoa r.p).length ≤ 20 ∧ r.n.length ≤ 24 := by
  obtain ⟨h1, h2, h3, h4, h5, h6, h7, h8, h9, h10⟩ := ruleOk_all h
  have hn := name_len h1
  have hp := itoa_len (n := r.p) (by unfold inR; rw [decide_eq_true_iff]; omega)
  have hh := hasN_len r.c
  have hc := join_le 4000 (r.c.map condT) (fun p hp => by
    obtain ⟨l, hl, rfl⟩ := List.mem_map.1 hp
    exact condT_len (h9 l hl))
  have ha := join_le 10000 (r.a.map actT) (fun p hp => by
    obtain ⟨l, hl, rfl⟩ := List.mem_map.1 hp
    exact actT_len (by omega) (h10 l hl))
  rw [List.length_map] at hc ha
  refine ⟨?_, by omega, by omega, hp, hn⟩
  unfold ruleT
  simp only [List.length_append, List.length_cons, List.length_nil]; omega
end Go.PV
namespace Go.PV
open Go
/-! the program's reader of rules -/
namespace Rd
def way (r : Rd) : Int × Rd :=
  if r.see 5 [61] then (1, r.step) else if r.see 5 [33, 61] then (2, r.step) else if r.see 5 [60] then (3, r.step) else if r.see 5 [60, 61] then (4, r.step) else (0, if r.isOpen then r.fail else r)
def condR (r : Rd) : Cnd × Rd :=
  if r.see 5 [91] then
    let a := r.step.expr
    let w := a.2.way
    let b := w.2.expr
    (⟨3, zeroA, w.1, a.1, b.1⟩, b.2.want 5 [93])
  else if r.see 1 [110, 111, 116] then let a := r.step.atom; (⟨2, a.1, 0, [], []⟩, a.2)
  else let a := r.atom; (⟨1, a.1, 0, [], []⟩, a.2)
/-- more of them, behind commas -/
def many {α : Type} (g : Rd → α × Rd) : Nat → Rd → List α × Rd
  | 0, r => ([], r)
  | f + 1, r => if r.see 5 [44] then ((g r.step).1 :: (many g f (g r.step).2).1, (many g f (g r.step).2).2) else ([], r)
def back (r : Rd) : Rd := { r with i := r.i - 1, bad := true }
def actR (r : Rd) : Act × Rd :=
  if r.see 1 [100, 114, 111, 112] then
    let x := r.step.num
    (⟨2, [], [], x.1⟩, if x.2.isOpen && decide (x.1 < 0) then x.2.back else x.2)
  else
    let x := (r.want 5 [43]).name
    if x.2.see 5 [40] then
      let a := x.2.step.expr
      let b := many expr r.l.length a.2
      (⟨1, x.1, (a.1 :: b.1).take 6, 0⟩, b.2.want 5 [41])
    else (⟨1, x.1, [], 0⟩, x.2)
def rule (r : Rd) : Rul × Rd :=
  let n := (r.want 1 [114, 117, 108, 101]).name
  let p := n.2.num
  let c := (p.2.want 5 [58]).condR
  let d := many condR r.l.length c.2
  let a := (d.2.want 5 [45, 62]).actR
  let b := many actR r.l.length a.2
  (⟨n.1, p.1, (c.1 :: d.1).take 7, (a.1 :: b.1).take 7⟩, b.2.want 5 [46])
theorem num_up {r : Rd} (h : r.num.2.isOpen = true) : r.num.2.i = r.i + 1 := by
  unfold num at *
  split
  · rename_i ho
    rw [if_pos ho] at h
    split
    · rename_i x hx
      rw [hx] at h
      dsimp only at h
      split
      · rfl
      · rename_i hv; rw [hv] at h; simp [isOpen, fail] at h
    · rename_i hx
      rw [hx] at h; simp [isOpen, fail] at h
  · rename_i ho
    rw [if_neg ho] at h
    exact absurd h ho
theorem way_l (r : Rd) : r.way.2.l = r.l ∧ r.i ≤ r.way.2.i := by
  unfold way
  split
  · exact ⟨rfl, Nat.le_succ _⟩
  · split
    · exact ⟨rfl, Nat.le_succ _⟩
    · split
      · exact ⟨rfl, Nat.le_succ _⟩
      · split
        · exact ⟨rfl, Nat.le_succ _⟩
        · dsimp only
          split
          · exact ⟨rfl, Nat.le_refl _⟩
          · exact ⟨rfl, Nat.le_refl _⟩
theorem condR_l (r : Rd) : r.condR.2.l = r.l ∧ r.i ≤ r.condR.2.i := by
  unfold condR
  split
  · have h1 := expr_l r.step
    have h2 := way_l r.step.expr.2
    have h3 := expr_l r.step.expr.2.way.2
    have h4 := want_l r.step.expr.2.way.2.expr.2 5 [93]
    have e : r.step.l = r.l ∧ r.step.i = r.i + 1 := ⟨rfl, rfl⟩
    dsimp only
    exact ⟨by rw [h4.1, h3.1, h2.1, h1.1, e.1], by omega⟩
  · split
    · have h1 := atom_l r.step
      have e : r.step.l = r.l ∧ r.step.i = r.i + 1 := ⟨rfl, rfl⟩
      dsimp only
      exact ⟨by rw [h1.1, e.1], by omega⟩
    · have h1 := atom_l r
      exact h1
theorem many_l {α : Type} {g : Rd → α × Rd} (hg : ∀ r, (g r).2.l = r.l ∧ r.i ≤ (g r).2.i) : ∀ (f : Nat) (r : Rd), (many g f r).2.l = r.l ∧ r.i ≤ (many g f r).2.i
  | 0, r => ⟨rfl, Nat.le_refl _⟩
  | f + 1, r => by
    rw [many]
    split
    · have h1 := hg r.step
      have h2 := many_l hg f (g r.step).2
      have e : r.step.l = r.l ∧ r.step.i = r.i + 1 := ⟨rfl, rfl⟩
      dsimp only
      exact ⟨by rw [h2.1, h1.1, e.1], by omega⟩
    · exact ⟨rfl, Nat.le_refl _⟩
theorem actR_l (r : Rd) : r.actR.2.l = r.l ∧ r.i ≤ r.actR.2.i := by
  unfold actR
  split
  · have h1 := num_l r.step
    have e : r.step.l = r.l ∧ r.step.i = r.i + 1 := ⟨rfl, rfl⟩
    dsimp only
    split
    · exact ⟨by show r.step.num.2.l = _; rw [h1.1, e.1], by show r.i ≤ r.step.num.2.i - 1; omega⟩
    · exact ⟨by rw [h1.1, e.1], by omega⟩
  · have h0 := want_l r 5 [43]
    have h1 := name_l (r.want 5 [43])
    dsimp only
    split
    · have h2 := expr_l (r.want 5 [43]).name.2.step
      have h3 := many_l expr_l r.l.length (r.want 5 [43]).name.2.step.expr.2
      have h4 := want_l (many expr r.l.length (r.want 5 [43]).name.2.step.expr.2).2 5 [41]
      have e : (r.want 5 [43]).name.2.step.l = (r.want 5 [43]).name.2.l ∧ (r.want 5 [43]).name.2.step.i = (r.want 5 [43]).name.2.i + 1 := ⟨rfl, rfl⟩
      dsimp only
      exact ⟨by rw [h4.1, h3.1, h2.1, e.1, h1.1, h0.1], by omega⟩
    · exact ⟨by rw [h1.1, h0.1], by show r.i ≤ (r.want 5 [43]).name.2.i; omega⟩
end Rd
def zeroR : Rul := ⟨[], 0, [], []⟩
def readR (l : List Tok) (i : Nat) : Rul × Nat × Int :=
  let x := (rd0 l i).rule
  if x.2.endE = 0 then (if ruleOk x.1 then (x.1, x.2.endI i, 0) else (zeroR, i, 7)) else (zeroR, x.2.endI i, 7)
def parseR (s : Bs) : Rul × Int :=
  if errR s = 0 then
    let x := readR (toksR s) 0
    if x.2.2 = 0 ∧ ¬ x.2.1 < (toksR s).length then (x.1, 0) else (zeroR, 7)
  else (zeroR, errR s)
end Go.PV
namespace Go.PV
open Go
/-! what is read of rules is short -/
def trmS (t : Trm) : Prop := t.v.length ≤ 1000000 ∧ t.x.s.length ≤ 1000000
def stpS (o : Stp) : Prop := o.v.length ≤ 1000000 ∧ o.x.s.length ≤ 1000000
namespace Rd
theorem term_s (r : Rd) : trmS r.term.1 := by
  unfold term
  split
  · split
    · rename_i t ht
      obtain ⟨x, _, hx⟩ := Option.bind_eq_some_iff.1 ht
      have := termOk_len (value_ok hx)
      exact ⟨by show t.v.length ≤ _; omega, by show t.x.s.length ≤ _; omega⟩
    · exact ⟨Nat.zero_le _, Nat.zero_le _⟩
  · exact ⟨Nat.zero_le _, Nat.zero_le _⟩
theorem name_s (r : Rd) : r.name.1.length ≤ 1000000 := by
  unfold name
  split
  · split
    · split
      · rename_i h; have := name_len h.2; dsimp only; omega
      · exact Nat.zero_le _
    · exact Nat.zero_le _
  · exact Nat.zero_le _
theorem args_s : ∀ (f : Nat) (r : Rd), ∀ t ∈ (args f r).1, trmS t
  | 0, r => fun t ht => by cases ht
  | f + 1, r => by
    rw [args]
    split
    · intro t ht
      rcases List.mem_cons.1 ht with rfl | ht
      · exact term_s _
      · exact args_s f _ t ht
    · intro t ht; cases ht
theorem atom_s (r : Rd) : r.atom.1.n.length ≤ 1000000 ∧ r.atom.1.a.length ≤ 1000000 ∧ ∀ t ∈ r.atom.1.a, t.v.length ≤ 1000000 ∧ t.x.s.length ≤ 1000000 := by
  unfold atom
  dsimp only
  split
  · unfold brack
    dsimp only
    refine ⟨name_s r, by rw [List.length_take]; omega, fun t ht => ?_⟩
    rcases List.mem_cons.1 (List.mem_of_mem_take ht) with rfl | ht
    · exact term_s _
    · exact args_s _ _ t ht
  · exact ⟨name_s r, Nat.zero_le _, fun t ht => by cases ht⟩
theorem part_s : ∀ (n : Nat) (r : Rd), ∀ o ∈ (part n r).1, stpS o
  | 0, r => by
    unfold part
    split
    · intro o ho; cases ho
    · intro o ho
      rw [List.mem_singleton] at ho
      subst ho
      exact term_s r
  | n + 1, r => by
    rw [part]
    split
    · dsimp only
      split
      · intro o ho
        rw [List.mem_append, List.mem_append, List.mem_singleton] at ho
        rcases ho with (ho | ho) | rfl
        · exact part_s n _ o ho
        · exact part_s n _ o ho
        · exact ⟨Nat.zero_le _, Nat.zero_le _⟩
      · intro o ho; cases ho
    · intro o ho
      rw [List.mem_singleton] at ho
      subst ho
      exact term_s r
theorem expr_s (r : Rd) : r.expr.1.length ≤ 1000000 ∧ ∀ o ∈ r.expr.1, o.v.length ≤ 1000000 ∧ o.x.s.length ≤ 1000000 := by
  unfold expr
  split
  · have := part_len 15 r
    exact ⟨by dsimp only; omega, part_s 15 r⟩
  · exact ⟨Nat.zero_le _, fun o ho => by cases ho⟩
theorem cnd_s (k : Int) {a : Atm} (h : a.n.length ≤ 1000000 ∧ a.a.length ≤ 1000000 ∧ ∀ t ∈ a.a, t.v.length ≤ 1000000 ∧ t.x.s.length ≤ 1000000) : cndB ⟨k, a, 0, [], []⟩ :=
  have z : ∀ o ∈ ([] : List Stp), o.v.length ≤ 1000000 ∧ o.x.s.length ≤ 1000000 := fun o ho => absurd ho List.not_mem_nil
  ⟨h.1, h.2.1, h.2.2, Nat.zero_le _, z, Nat.zero_le _, z⟩
theorem condR_s (r : Rd) : cndB r.condR.1 := by
  unfold condR
  split
  · have h1 := expr_s r.step
    have h2 := expr_s r.step.expr.2.way.2
    exact ⟨Nat.zero_le _, Nat.zero_le _, fun t ht => absurd ht List.not_mem_nil, h1.1, h1.2, h2.1, h2.2⟩
  · split
    · exact cnd_s 2 (atom_s r.step)
    · exact cnd_s 1 (atom_s r)
theorem many_s {α : Type} {g : Rd → α × Rd} {p : α → Prop} (hg : ∀ r, p (g r).1) : ∀ (f : Nat) (r : Rd), ∀ x ∈ (many g f r).1, p x
  | 0, r => fun x hx => by cases hx
  | f + 1, r => by
    rw [many]
    split
    · intro x hx
      rcases List.mem_cons.1 hx with rfl | hx
      · exact hg _
      · exact many_s hg f _ x hx
    · intro x hx; cases hx
theorem actR_s (r : Rd) : actB r.actR.1 := by
  unfold actR
  split
  · exact ⟨Nat.zero_le _, Nat.zero_le _, fun l hl => absurd hl List.not_mem_nil⟩
  · dsimp only
    split
    · refine ⟨name_s _, by dsimp only; rw [List.length_take]; omega, fun l hl => ?_⟩
      rcases List.mem_cons.1 (List.mem_of_mem_take hl) with rfl | hl
      · exact expr_s _
      · exact many_s (p := fun l => l.length ≤ 1000000 ∧ ∀ o ∈ l, o.v.length ≤ 1000000 ∧ o.x.s.length ≤ 1000000) expr_s _ _ l hl
    · exact ⟨name_s _, Nat.zero_le _, fun l hl => absurd hl List.not_mem_nil⟩
theorem rule_s (r : Rd) : rulB r.rule.1 := by
  unfold rule
  dsimp only
  refine ⟨name_s _, by dsimp only; rw [List.length_take]; omega, fun c hc => ?_, by dsimp only; rw [List.length_take]; omega, fun c hc => ?_⟩
  · rcases List.mem_cons.1 (List.mem_of_mem_take hc) with rfl | hc
    · exact condR_s _
    · exact many_s condR_s _ _ c hc
  · rcases List.mem_cons.1 (List.mem_of_mem_take hc) with rfl | hc
    · exact actR_s _
    · exact many_s actR_s _ _ c hc
end Rd
end Go.PV
namespace Go.PV
open Go
/-! law 11: small things -/
theorem any_take_drop {α : Type} {p : α → Bool} {l : List α} {k : Nat} (h : k < l.length) (hp : p l[k] = false) : (l.drop k).any p = (l.drop (k + 1)).any p := by
  rw [List.drop_eq_getElem_cons h, List.any_cons, hp, Bool.false_or]
theorem any_true {α : Type} {p : α → Bool} {l : List α} {k : Nat} (h : k < l.length) (hp : p l[k] = true) : (l.drop k).any p = true := by
  rw [List.drop_eq_getElem_cons h, List.any_cons, hp, Bool.true_or]
def rW : Bs := [114, 117, 108, 101, 32, 97, 32, 45, 53, 58, 32, 112, 40, 88, 41, 44, 32, 110, 111, 116, 32, 113, 40, 88, 41, 44, 32, 91, 88, 32, 60, 32, 51, 93, 32, 45, 62, 32, 43, 114, 40, 40, 88, 32, 43, 32, 49, 41, 41, 44, 32, 100, 114, 111, 112, 32, 48, 46]
def rB : Bs := [114, 117, 108, 101, 32, 97, 32, 48, 58, 32, 110, 111, 116, 32, 112, 32, 45, 62, 32, 43, 113, 46]
def rR : Rul := ⟨[97], -5, [⟨1, ⟨[112], [⟨[88], zeroV⟩]⟩, 0, [], []⟩, ⟨2, ⟨[113], [⟨[88], zeroV⟩]⟩, 0, [], []⟩, ⟨3, zeroA, 3, [⟨1, [88], zeroV⟩], [⟨2, [], ⟨1, 3, []⟩⟩]⟩],
  [⟨1, [114], [[⟨1, [88], zeroV⟩, ⟨2, [], ⟨1, 1, []⟩⟩, ⟨3, [], zeroV⟩]], 0⟩, ⟨2, [], [], 0⟩]⟩
set_option maxRecDepth 100000 in
theorem rW_p : parseR rW = (rR, 0) := by decide +kernel
set_option maxRecDepth 100000 in
theorem rB_p : (parseR rB).2 = 7 := by decide +kernel
set_option maxRecDepth 100000 in
theorem rR_t : ruleE rR = 0 ∧ ruleX rR = rW := by decide +kernel
end Go.PV
namespace Go.PV
open Go
/-! rules: what is written is read -/
noncomputable def treeOf (l : List Stp) : Tree := if h : exprOk l = true then Classical.choose (Tree.of_ok h) else .leaf zeroT
theorem treeOf_ok {l : List Stp} (h : exprOk l = true) : (treeOf l).ok = true ∧ (treeOf l).ops = l ∧ (treeOf l).size ≤ 15 ∧ (treeOf l).txt = exprT l := by
  have e : treeOf l = Classical.choose (Tree.of_ok h) := by unfold treeOf; rw [dif_pos h]
  obtain ⟨h1, h2, h3⟩ := Classical.choose_spec (Tree.of_ok h)
  rw [e]
  exact ⟨h1, h2, h3, by rw [← Tree.exprT_ops h1, h2]⟩
noncomputable def exprK (b : Bs) (l : List Stp) : List (Bs × KT) := (treeOf l).toks b
theorem exprK_T {l : List Stp} (h : exprOk l = true) (b : Bs) : weaveK (exprK b l) = b ++ exprT l := by
  unfold exprK; rw [Tree.weave_toks, (treeOf_ok h).2.2.2]
noncomputable def manyK {α : Type} (k : Bs → α → List (Bs × KT)) (xs : List α) : List (Bs × KT) := xs.flatMap fun x => ([], (5, [44])) :: k [32] x
theorem manyK_T {α : Type} {k : Bs → α → List (Bs × KT)} {t : α → Bs} : ∀ {xs : List α}, (∀ x ∈ xs, weaveK (k [32] x) = 32 :: t x) → weaveK (manyK k xs) = Lib.joinTail [44, 32] (xs.map t)
  | [], _ => rfl
  | x :: r, h => by
    have ih := manyK_T (xs := r) (fun y hy => h y (by simp [hy]))
    have e : manyK k (x :: r) = ([], (5, [44])) :: (k [32] x ++ manyK k r) := by simp [manyK]
    rw [e, weaveK, weaveK_app, h x (by simp), ih]
    simp [Lib.joinTail]
theorem wov_many {α : Type} {k : Bs → α → List (Bs × KT)} {t : α → Bs} {tail : Bs} (ht : stopH tail = true) : ∀ {xs : List α}, (∀ x ∈ xs, weaveK (k [32] x) = 32 :: t x) → (∀ x ∈ xs, ∀ w, stopH w = true → WovK w (k [32] x)) → WovK tail (manyK k xs) ∧ stopH (weaveK (manyK k xs) ++ tail) = true
  | [], _, _ => ⟨trivial, ht⟩
  | x :: r, h, hw => by
    obtain ⟨i1, i2⟩ := wov_many ht (xs := r) (fun y hy => h y (by simp [hy])) (fun y hy => hw y (by simp [hy]))
    have e : manyK k (x :: r) = ([], (5, [44])) :: (k [32] x ++ manyK k r) := by simp [manyK]
    rw [e]
    refine ⟨⟨rfl, by unfold Tk; decide +kernel, ?_, WovK.app (hw x (by simp) _ i2) i1⟩, rfl⟩
    rw [weaveK_app, h x (by simp)]
    exact okEnd_stop rfl
noncomputable def condK (b : Bs) (c : Cnd) : List (Bs × KT) :=
  if c.k = 3 then (b, (5, [91])) :: (exprK [] c.l ++ ([32], (5, wayT c.h)) :: (exprK [32] c.r ++ [([], (5, [93]))]))
  else if c.k = 2 then (b, (1, [110, 111, 116])) :: atomK [32] c.a else atomK b c.a
noncomputable def actK (b : Bs) (x : Act) : List (Bs × KT) :=
  if x.k = 2 then [(b, (1, [100, 114, 111, 112])), ([32], (3, Lib.itoa x.w))]
  else (b, (5, [43])) :: ([], (1, x.n)) :: (match x.a with
    | [] => []
    | e :: es => ([], (5, [40])) :: (exprK [] e ++ (manyK exprK es ++ [([], (5, [41]))])))
theorem weave_atom (b : Bs) (a : Atm) : weaveK (atomK b a) = b ++ atomT a := weaveK_atomK b a
theorem condK_T {c : Cnd} (h : condOk c = true) (b : Bs) : weaveK (condK b c) = b ++ condT c := by
  unfold condK condT
  split
  · rename_i hk
    obtain ⟨_, _, _, h1, h2⟩ := condOk_3 h hk
    rw [weaveK, weaveK_app, exprK_T h1, weaveK, weaveK_app, exprK_T h2]
    simp [weaveK]
  · split
    · rw [weaveK, weave_atom]; simp
    · rw [weave_atom]
theorem actK_T {m : Int} {x : Act} (h : actOk m x = true) (b : Bs) : weaveK (actK b x) = b ++ actT x := by
  unfold actK actT
  split
  · simp [weaveK]
  · rename_i hk
    obtain ⟨_, _, _, _, h4⟩ := actOk_1 h hk
    obtain ⟨k, n, a, w⟩ := x
    dsimp only at h4 ⊢
    cases a with
    | nil => simp [weaveK]
    | cons e es =>
      rw [List.all_cons, Bool.and_eq_true] at h4
      have ht : ∀ l ∈ es, weaveK (exprK [32] l) = 32 :: exprT l := fun l hl => exprK_T (List.all_eq_true.1 h4.2 l hl) [32]
      rw [if_neg (by simp)]
      simp only [weaveK, weaveK_app, exprK_T h4.1, manyK_T ht, List.map_cons, Lib.join_cons]
      simp
theorem wov_expr {l : List Stp} (h : exprOk l = true) {b tail : Bs} (hb : blk b = true) (ht : stopH tail = true) : WovK tail (exprK b l) := Tree.wov (treeOf_ok h).1 b tail hb ht
theorem expr_head {l : List Stp} (h : exprOk l = true) (r : Bs) {x : UInt8} (hx : x ≠ 45) : okEnd (5, [x]) (exprT l ++ r) = true := by
  obtain ⟨c, u, e, h1, h2⟩ := Tree.txt_head (treeOf_ok h).1
  rw [(treeOf_ok h).2.2.2] at e
  rw [e]; exact okEnd_sign hx ⟨h1, h2⟩
theorem tk_way {h : Int} (h1 : 1 ≤ h) (h2 : h ≤ 4) : Tk (5, wayT h) ∧ ∀ r : Bs, okEnd (5, wayT h) (32 :: r) = true := by
  have : h = 1 ∨ h = 2 ∨ h = 3 ∨ h = 4 := by omega
  rcases this with rfl | rfl | rfl | rfl <;> exact ⟨by unfold Tk; decide +kernel, fun r => okEnd_stop rfl⟩
theorem wov_cond {c : Cnd} (h : condOk c = true) {b tail : Bs} (hb : blk b = true) (ht : stopH tail = true) : WovK tail (condK b c) := by
  unfold condK
  split
  · rename_i hk
    obtain ⟨_, w1, w2, h1, h2⟩ := condOk_3 h hk
    obtain ⟨q1, q2⟩ := tk_way w1 w2
    refine ⟨hb, by unfold Tk; decide +kernel, ?_, WovK.app (wov_expr h1 rfl rfl) ⟨rfl, q1, ?_, WovK.app (wov_expr h2 rfl rfl) ⟨rfl, by unfold Tk; decide +kernel, okEnd_stop ht, trivial⟩⟩⟩
    · rw [weaveK_app, exprK_T h1, List.nil_append, List.append_assoc]; exact expr_head h1 _ (by decide)
    · rw [weaveK_app, exprK_T h2]; exact q2 _
  · rename_i hk
    obtain ⟨_, _, _, _, h1⟩ := condOk_n h hk
    split
    · refine ⟨hb, by unfold Tk; decide +kernel, ?_, wov_atom ht rfl h1⟩
      rw [weave_atom]; exact okEnd_stop rfl
    · exact wov_atom ht hb h1
theorem wov_act {m : Int} (hm : m ≤ 1000) {x : Act} (h : actOk m x = true) {b tail : Bs} (hb : blk b = true) (ht : stopH tail = true) : WovK tail (actK b x) := by
  unfold actK
  split
  · rename_i hk
    obtain ⟨_, _, w1, w2⟩ := actOk_2 h hk
    have hr : inR x.w = true := by unfold inR; rw [decide_eq_true_iff]; omega
    exact ⟨hb, by unfold Tk; decide +kernel, okEnd_stop rfl, rfl, tk_num (by rw [refNum_itoa hr]; rfl), okEnd_stop ht, trivial⟩
  · rename_i hk
    obtain ⟨_, hn, _, _, h4⟩ := actOk_1 h hk
    have tn : Tk (1, x.n) := tk_word (large := false) (nameS_word hn)
    obtain ⟨k, n, a, w⟩ := x
    dsimp only at h4 hn tn ⊢
    cases a with
    | nil =>
      refine ⟨hb, by unfold Tk; decide +kernel, ?_, rfl, tn, okEnd_stop ht, trivial⟩
      rw [weaveK, List.nil_append, List.append_assoc]; exact okEnd_head (x := 43) (t := (1, n)) (by decide) tn (show (1 : Int) ≠ 5 by decide) _
    | cons e es =>
      rw [List.all_cons, Bool.and_eq_true] at h4
      have h5 : ∀ l ∈ es, exprOk l = true := fun l hl => List.all_eq_true.1 h4.2 l hl
      have ht2 : ∀ l ∈ es, weaveK (exprK [32] l) = 32 :: exprT l := fun l hl => exprK_T (h5 l hl) [32]
      obtain ⟨i1, i2⟩ := wov_many (k := exprK) (t := exprT) (tail := [41] ++ tail) rfl ht2 (fun l hl w hw => wov_expr (h5 l hl) rfl hw)
      have hw2 : WovK tail (manyK exprK es ++ [([], (5, [41]))]) := WovK.app (by simpa [weaveK] using i1) ⟨rfl, by unfold Tk; decide +kernel, okEnd_stop ht, trivial⟩
      refine ⟨hb, by unfold Tk; decide +kernel, ?_, rfl, tn, okEnd_stop rfl, rfl, by unfold Tk; decide +kernel, ?_, WovK.app (wov_expr h4.1 rfl ?_) hw2⟩
      · rw [weaveK, List.nil_append, List.append_assoc]; exact okEnd_head (x := 43) (t := (1, n)) (by decide) tn (show (1 : Int) ≠ 5 by decide) _
      · rw [weaveK_app, exprK_T h4.1, List.nil_append, List.append_assoc]; exact expr_head h4.1 _ (by decide)
      · rw [weaveK_app, List.append_assoc]; simpa [weaveK] using i2
end Go.PV
namespace Go.PV
open Go
/-! rules: their signs are read as them -/
namespace Rd
theorem rest_adv {r : Rd} {K m : List KT} (h : r.rest = K ++ m) : (r.adv K.length).rest = m := by
  unfold rest adv at *
  exact rest_add h
theorem adv_add (r : Rd) (a b : Nat) : (r.adv a).adv b = r.adv (a + b) := by unfold adv; dsimp only; rw [Nat.add_assoc]
theorem step_adv (r : Rd) (a : Nat) : r.step.adv a = r.adv (a + 1) := by unfold adv step; dsimp only; rw [Nat.add_assoc, Nat.add_comm 1]
theorem adv_step (r : Rd) (a : Nat) : (r.adv a).step = r.adv (a + 1) := rfl
theorem expr_restK {r : Rd} {l : List Stp} {b : Bs} {m : List KT} (h : exprOk l = true) (ho : r.isOpen = true) (hr : r.rest = (exprK b l).map (·.2) ++ m) : r.expr = (l, r.adv (exprK b l).length) := by
  have := expr_rest (treeOf_ok h).1 (treeOf_ok h).2.2.1 ho hr
  rw [this, (treeOf_ok h).2.1]; rfl
theorem way_rest {r : Rd} {h : Int} {m : List KT} (h1 : 1 ≤ h) (h2 : h ≤ 4) (ho : r.isOpen = true) (hr : r.rest = (5, wayT h) :: m) : r.way = (h, r.step) := by
  have hs := see_rest ho hr
  have hn : ∀ x : Bs, x ≠ wayT h → r.see 5 x = false := fun x hx => see_no (x := (5, x)) (by rw [hr]; simp; exact fun e => hx e.symm)
  unfold way
  have : h = 1 ∨ h = 2 ∨ h = 3 ∨ h = 4 := by omega
  rcases this with rfl | rfl | rfl | rfl
  · rw [if_pos (show r.see 5 [61] = true from hs)]
  · rw [if_neg (by rw [hn [61] (by decide)]; simp), if_pos (show r.see 5 [33, 61] = true from hs)]
  · rw [if_neg (by rw [hn [61] (by decide)]; simp), if_neg (by rw [hn [33, 61] (by decide)]; simp), if_pos (show r.see 5 [60] = true from hs)]
  · rw [if_neg (by rw [hn [61] (by decide)]; simp), if_neg (by rw [hn [33, 61] (by decide)]; simp), if_neg (by rw [hn [60] (by decide)]; simp), if_pos (show r.see 5 [60, 61] = true from hs)]
theorem num_rest {r : Rd} {n : Int} {m : List KT} (hn : inR n = true) (ho : r.isOpen = true) (hr : r.rest = (3, Lib.itoa n) :: m) : r.num = (n, r.step) := by
  unfold num
  rw [if_pos ho, (rest_cons hr).1]
  dsimp only
  rw [if_pos rfl, number_itoa hn]
theorem condR_rest {r : Rd} {c : Cnd} {b : Bs} {m : List KT} (h : condOk c = true) (ho : r.isOpen = true) (hr : r.rest = (condK b c).map (·.2) ++ m) (hm : m.head? ≠ some (5, [40])) : r.condR = (c, r.adv (condK b c).length) := by
  unfold condK at hr ⊢
  unfold condR
  by_cases hk : c.k = 3
  · rw [if_pos hk] at hr ⊢
    obtain ⟨ha, w1, w2, h1, h2⟩ := condOk_3 h hk
    have hr : r.rest = (5, [91]) :: ((exprK [] c.l).map (·.2) ++ ((5, wayT c.h) :: ((exprK [32] c.r).map (·.2) ++ (5, [93]) :: m))) := by rw [hr]; simp
    have hc := rest_cons hr
    rw [if_pos (show r.see 5 [91] = true from see_rest ho hr)]
    have q1 := expr_restK (r := r.step) h1 ho hc.2
    have r1 := rest_adv hc.2
    rw [List.length_map] at r1
    have q2 := way_rest (r := r.step.adv (exprK [] c.l).length) w1 w2 ho r1
    have r2 := (rest_cons r1).2
    have q3 := expr_restK (r := (r.step.adv (exprK [] c.l).length).step) h2 ho r2
    have r3 := rest_adv r2
    rw [List.length_map] at r3
    have q4 := want_rest (r := (r.step.adv (exprK [] c.l).length).step.adv (exprK [32] c.r).length) ho r3
    dsimp only
    rw [q1]
    dsimp only
    rw [q2]
    dsimp only
    rw [q3]
    dsimp only
    refine Prod.ext ?_ ?_
    · obtain ⟨k, a, hh, l, r'⟩ := c
      dsimp only at hk ha ⊢
      rw [hk, ha]
    · refine q4.trans ?_
      simp only [adv, step, List.length_cons, List.length_append, List.length_nil]
      congr 1; omega
  · rw [if_neg hk] at hr ⊢
    obtain ⟨hk2, hh, hl, hrr, h1⟩ := condOk_n h hk
    have hz : c = ⟨c.k, c.a, 0, [], []⟩ := by
      obtain ⟨k, a, hh', l, r'⟩ := c
      dsimp only at hh hl hrr ⊢
      rw [hh, hl, hrr]
    by_cases h2 : c.k = 2
    · rw [if_pos h2] at hr ⊢
      have hr : r.rest = (1, [110, 111, 116]) :: ((atomK [32] c.a).map (·.2) ++ m) := by rw [hr]; rfl
      have hc := rest_cons hr
      have n1 : r.see 5 [91] = false := see_no (x := (5, [91])) (by rw [hr]; simp)
      rw [if_neg (by rw [n1]; simp), if_pos (show r.see 1 [110, 111, 116] = true from see_rest ho hr)]
      have q := atom_rest (r := r.step) ho h1 hc.2 (fun _ => hm)
      dsimp only
      rw [q]
      refine Prod.ext ?_ ?_
      · rw [hz, h2]
      · dsimp only; rw [step_adv]; rfl
    · rw [if_neg h2] at hr ⊢
      have h1k : c.k = 1 := by omega
      have hr0 : r.rest = (1, c.a.n) :: ((argsK c.a.a).map (·.2) ++ m) := hr
      have hnm : nameS c.a.n = true := by unfold atomOk at h1; simp only [Bool.and_eq_true] at h1; exact h1.1.1
      have hnot : c.a.n ≠ [110, 111, 116] := by
        intro e; rw [e] at hnm; exact absurd hnm (by decide +kernel)
      have n1 : r.see 5 [91] = false := see_no (x := (5, [91])) (by rw [hr0]; simp)
      have n2 : r.see 1 [110, 111, 116] = false := see_no (x := (1, [110, 111, 116])) (by rw [hr0]; simp; exact hnot)
      rw [if_neg (by rw [n1]; simp), if_neg (by rw [n2]; simp)]
      have q := atom_rest (r := r) ho h1 hr (fun _ => hm)
      dsimp only
      rw [q]
      refine Prod.ext ?_ rfl
      rw [hz, h1k]
theorem many_rest {α : Type} {g : Rd → α × Rd} {k : Bs → α → List (Bs × KT)} {m : List KT} (hm : m.head? ≠ some (5, [44])) (hm2 : m.head? ≠ some (5, [40])) : ∀ (xs : List α) (f : Nat) (r : Rd), (∀ x ∈ xs, ∀ (r : Rd) (m : List KT), r.isOpen = true → r.rest = (k [32] x).map (·.2) ++ m → m.head? ≠ some (5, [40]) → g r = (x, r.adv (k [32] x).length)) →
    r.isOpen = true → r.rest = (manyK k xs).map (·.2) ++ m → xs.length ≤ f → many g f r = (xs, r.adv (manyK k xs).length)
  | [], f, r, _, ho, hr, _ => by
    have hs : r.see 5 [44] = false := see_no (x := (5, [44])) (by rw [hr]; exact hm)
    cases f <;> simp [many, hs] <;> rfl
  | x :: xs, f, r, hg, ho, hr, hf => by
    obtain ⟨f, rfl⟩ : ∃ f', f = f' + 1 := ⟨f - 1, by simp at hf; omega⟩
    have e : manyK k (x :: xs) = ([], (5, [44])) :: (k [32] x ++ manyK k xs) := by simp [manyK]
    rw [e] at hr ⊢
    have hr : r.rest = (5, [44]) :: ((k [32] x).map (·.2) ++ ((manyK k xs).map (·.2) ++ m)) := by rw [hr]; simp
    have hc := rest_cons hr
    have hh : ((manyK k xs).map (·.2) ++ m).head? ≠ some (5, [40]) := by
      cases xs with
      | nil => exact hm2
      | cons y ys => simp [manyK]
    have q := hg x (by simp) r.step _ ho hc.2 hh
    have r1 := rest_adv hc.2
    rw [List.length_map] at r1
    have ih := many_rest hm hm2 xs f (r.step.adv (k [32] x).length) (fun y hy => hg y (by simp [hy])) ho r1 (by simp at hf; omega)
    rw [many, if_pos (show r.see 5 [44] = true from see_rest ho hr), q]
    dsimp only
    rw [ih]
    refine Prod.ext rfl ?_
    simp only [adv, step, List.length_cons, List.length_append]
    congr 1; omega
theorem manyK_len {α : Type} (k : Bs → α → List (Bs × KT)) : ∀ xs : List α, xs.length ≤ (manyK k xs).length
  | [] => Nat.zero_le _
  | x :: r => by
    have := manyK_len k r
    have e : manyK k (x :: r) = ([], (5, [44])) :: (k [32] x ++ manyK k r) := by simp [manyK]
    rw [e]; simp only [List.length_cons, List.length_append]; omega
theorem rest_len {r : Rd} {K m : List KT} (h : r.rest = K ++ m) : K.length ≤ r.l.length := by
  have := congrArg List.length h
  unfold rest at this
  rw [List.length_map, List.length_drop, List.length_append] at this
  omega
theorem actR_rest {n : Int} {r : Rd} {x : Act} {b : Bs} {m : List KT} (hn : n ≤ 1000) (h : actOk n x = true) (ho : r.isOpen = true) (hr : r.rest = (actK b x).map (·.2) ++ m) (hm : m.head? ≠ some (5, [40])) : r.actR = (x, r.adv (actK b x).length) := by
  unfold actK at hr ⊢
  by_cases hk : x.k = 2
  · rw [if_pos hk] at hr ⊢
    obtain ⟨q1, q2, w1, w2⟩ := actOk_2 h hk
    have hi : inR x.w = true := by unfold inR; rw [decide_eq_true_iff]; omega
    have hr : r.rest = (1, [100, 114, 111, 112]) :: (3, Lib.itoa x.w) :: m := by rw [hr]; rfl
    have hc := rest_cons hr
    have hu := num_rest (r := r.step) hi ho hc.2
    unfold actR
    rw [if_pos (show r.see 1 [100, 114, 111, 112] = true from see_rest ho hr), hu]
    dsimp only
    have hneg : decide (x.w < 0) = false := decide_eq_false (by omega)
    rw [hneg, Bool.and_false, if_neg (by simp)]
    refine Prod.ext ?_ rfl
    obtain ⟨k, n', a, w⟩ := x
    dsimp only at hk q1 q2 ⊢
    rw [hk, q1, q2]
  · rw [if_neg hk] at hr ⊢
    obtain ⟨hk1, hnm, hw, h5, h4⟩ := actOk_1 h hk
    obtain ⟨k, n', a, w⟩ := x
    dsimp only at hk1 hnm hw h5 h4 hr ⊢
    subst hk1 hw
    unfold actR
    cases a with
    | nil =>
      have hr : r.rest = (5, [43]) :: (1, n') :: m := by rw [hr]; rfl
      have hc := rest_cons hr
      have hc2 := rest_cons hc.2
      have n1 : r.see 1 [100, 114, 111, 112] = false := see_no (x := (1, [100, 114, 111, 112])) (by rw [hr]; simp)
      have hwn := want_rest ho hr
      have hname := name_rest (r := r.step) ho hc.2 hnm
      have hs : r.step.step.see 5 [40] = false := see_no (x := (5, [40])) (by rw [hc2.2]; exact hm)
      rw [if_neg (by rw [n1]; simp)]
      dsimp only at hwn ⊢
      rw [hwn, hname]
      dsimp only
      rw [if_neg (by rw [hs]; simp)]
      rfl
    | cons e es =>
      rw [List.all_cons, Bool.and_eq_true] at h4
      have h6 : ∀ l ∈ es, exprOk l = true := fun l hl => List.all_eq_true.1 h4.2 l hl
      have hr : r.rest = (5, [43]) :: (1, n') :: (5, [40]) :: ((exprK [] e).map (·.2) ++ ((manyK exprK es).map (·.2) ++ (5, [41]) :: m)) := by rw [hr]; simp
      have hc := rest_cons hr
      have hc2 := rest_cons hc.2
      have hc3 := rest_cons hc2.2
      have n1 : r.see 1 [100, 114, 111, 112] = false := see_no (x := (1, [100, 114, 111, 112])) (by rw [hr]; simp)
      have hwn := want_rest ho hr
      have hname := name_rest (r := r.step) ho hc.2 hnm
      have hs : r.step.step.see 5 [40] = true := see_rest (r := r.step.step) (x := (5, [40])) ho hc2.2
      have q1 := expr_restK (r := r.step.step.step) h4.1 ho hc3.2
      have r1 := rest_adv hc3.2
      rw [List.length_map] at r1
      have hle := rest_len r1
      rw [List.length_map] at hle
      have hml := manyK_len exprK es
      have q2 := many_rest (g := expr) (k := exprK) (m := (5, [41]) :: m) (by simp) (by simp) es r.l.length (r.step.step.step.adv (exprK [] e).length) (fun l hl r m ho hr _ => expr_restK (h6 l hl) ho hr) ho r1 (Nat.le_trans hml hle)
      have r2 := rest_adv r1
      rw [List.length_map] at r2
      have q3 := want_rest (r := (r.step.step.step.adv (exprK [] e).length).adv (manyK exprK es).length) ho r2
      rw [if_neg (by rw [n1]; simp)]
      dsimp only at hwn q3 ⊢
      rw [hwn, hname]
      dsimp only
      rw [if_pos hs, q1]
      dsimp only
      rw [q2]
      dsimp only
      rw [q3, List.take_of_length_le (by omega)]
      refine Prod.ext rfl ?_
      simp only [adv, step, List.length_cons, List.length_append, List.length_nil]
      congr 1; omega
end Rd
end Go.PV
namespace Go.PV
open Go
/-! a rule's text is read as it -/
noncomputable def itmK {α : Type} (k : Bs → α → List (Bs × KT)) : List α → List (Bs × KT)
  | [] => []
  | x :: xs => k [32] x ++ manyK k xs
theorem itmK_T {α : Type} {k : Bs → α → List (Bs × KT)} {t : α → Bs} {xs : List α} (hx : xs ≠ []) (h : ∀ x ∈ xs, weaveK (k [32] x) = 32 :: t x) : weaveK (itmK k xs) = 32 :: Lib.join (xs.map t) [44, 32] := by
  obtain ⟨x, r, rfl⟩ := List.exists_cons_of_ne_nil hx
  rw [itmK, weaveK_app, h x (by simp), manyK_T (t := t) (fun y hy => h y (by simp [hy])), List.map_cons, Lib.join_cons]; rfl
theorem wov_items {α : Type} {k : Bs → α → List (Bs × KT)} {t : α → Bs} {tail : Bs} (ht : stopH tail = true) {xs : List α} (h : ∀ x ∈ xs, weaveK (k [32] x) = 32 :: t x) (hw : ∀ x ∈ xs, ∀ w, stopH w = true → WovK w (k [32] x)) : WovK tail (itmK k xs) := by
  cases xs with
  | nil => trivial
  | cons x r =>
    obtain ⟨i1, i2⟩ := wov_many (k := k) (t := t) ht (xs := r) (fun y hy => h y (by simp [hy])) (fun y hy => hw y (by simp [hy]))
    exact WovK.app (hw x (by simp) _ i2) i1
noncomputable def ruleK (b : Bs) (r : Rul) : List (Bs × KT) :=
  (b, (1, [114, 117, 108, 101])) :: ([32], (1, r.n)) :: ([32], (3, Lib.itoa r.p)) :: ([], (5, [58])) :: (itmK condK r.c ++ ([32], (5, [45, 62])) :: (itmK actK r.a ++ [([], (5, [46]))]))
theorem ruleK_T {r : Rul} (h : ruleOk r = true) (b : Bs) : weaveK (ruleK b r) = b ++ ruleT r := by
  obtain ⟨h1, h2, h3, h4, h5, h6, h7, h8, h9, h10⟩ := ruleOk_all h
  have hc : r.c ≠ [] := by intro e; rw [e] at h4; simp at h4
  have ha : r.a ≠ [] := by intro e; rw [e] at h7; simp at h7
  unfold ruleK ruleT
  simp only [weaveK, weaveK_app, itmK_T (t := condT) hc (fun c hc => condK_T (h9 c hc) [32]), itmK_T (t := actT) ha (fun x hx => actK_T (h10 x hx) [32])]
  simp
theorem wov_rule {r : Rul} (h : ruleOk r = true) {b tail : Bs} (hb : blk b = true) (ht : stopH tail = true) : WovK tail (ruleK b r) := by
  obtain ⟨h1, h2, h3, h4, h5, h6, h7, h8, h9, h10⟩ := ruleOk_all h
  have hh := hasN_len r.c
  have hr : inR r.p = true := by unfold inR; rw [decide_eq_true_iff]; omega
  have hc : r.c ≠ [] := by intro e; rw [e] at h4; simp at h4
  have ha : r.a ≠ [] := by intro e; rw [e] at h7; simp at h7
  have tc : ∀ c ∈ r.c, weaveK (condK [32] c) = 32 :: condT c := fun c hc => condK_T (h9 c hc) [32]
  have ta : ∀ x ∈ r.a, weaveK (actK [32] x) = 32 :: actT x := fun x hx => actK_T (h10 x hx) [32]
  have w2 : WovK tail (itmK actK r.a ++ [([], (5, [46]))]) := WovK.app (wov_items (t := actT) rfl ta (fun x hx w hw => wov_act (by omega) (h10 x hx) rfl hw)) ⟨rfl, by unfold Tk; decide +kernel, okEnd_stop ht, trivial⟩
  have e2 : weaveK (itmK actK r.a ++ [([], (5, [46]))]) ++ tail = 32 :: (Lib.join (r.a.map actT) [44, 32] ++ ([46] ++ tail)) := by
    rw [weaveK_app, itmK_T (t := actT) ha ta]; simp [weaveK]
  have w1 : WovK tail (itmK condK r.c ++ ([32], (5, [45, 62])) :: (itmK actK r.a ++ [([], (5, [46]))])) := by
    refine WovK.app (wov_items (t := condT) rfl tc (fun c hc w hw => wov_cond (h9 c hc) rfl hw)) ⟨rfl, by unfold Tk; decide +kernel, ?_, w2⟩
    rw [e2]; exact okEnd_stop rfl
  refine ⟨hb, by unfold Tk; decide +kernel, okEnd_stop rfl, rfl, tk_word (large := false) (nameS_word h1), okEnd_stop rfl, rfl, tk_num (by rw [refNum_itoa hr]; rfl), okEnd_stop rfl, rfl, by unfold Tk; decide +kernel, ?_, w1⟩
  rw [weaveK_app, itmK_T (t := condT) hc tc]; exact okEnd_stop rfl
namespace Rd
theorem items_rest {α : Type} {g : Rd → α × Rd} {k : Bs → α → List (Bs × KT)} {m : List KT} (hm : m.head? ≠ some (5, [44])) (hm2 : m.head? ≠ some (5, [40])) {x : α} {xs : List α} {f : Nat} {r : Rd} (hg : ∀ y ∈ x :: xs, ∀ (r : Rd) (m : List KT), r.isOpen = true → r.rest = (k [32] y).map (·.2) ++ m → m.head? ≠ some (5, [40]) → g r = (y, r.adv (k [32] y).length))
    (ho : r.isOpen = true) (hr : r.rest = (itmK k (x :: xs)).map (·.2) ++ m) (hf : r.l.length ≤ f) : g r = (x, r.adv (k [32] x).length) ∧ many g f (r.adv (k [32] x).length) = (xs, r.adv (itmK k (x :: xs)).length) ∧ (r.adv (itmK k (x :: xs)).length).rest = m := by
  have hr : r.rest = (k [32] x).map (·.2) ++ ((manyK k xs).map (·.2) ++ m) := by rw [hr, itmK]; simp
  have hh : ((manyK k xs).map (·.2) ++ m).head? ≠ some (5, [40]) := by
    cases xs with
    | nil => exact hm2
    | cons y ys => simp [manyK]
  have q := hg x (by simp) r _ ho hr hh
  have r1 := rest_adv hr
  rw [List.length_map] at r1
  have hle := rest_len r1
  rw [List.length_map] at hle
  have hml := manyK_len k xs
  have e : (r.adv (k [32] x).length).l = r.l := rfl
  rw [e] at hle
  have q2 := many_rest hm hm2 xs f (r.adv (k [32] x).length) (fun y hy => hg y (by simp [hy])) ho r1 (by omega)
  have r2 := rest_adv r1
  rw [List.length_map, adv_add] at r2
  have el : (itmK k (x :: xs)).length = (k [32] x).length + (manyK k xs).length := by rw [itmK, List.length_append]
  refine ⟨q, ?_, by rw [el]; exact r2⟩
  rw [q2, el, adv_add]
theorem rule_rest {r : Rd} {a : Rul} {b : Bs} {m : List KT} (h : ruleOk a = true) (ho : r.isOpen = true) (hr : r.rest = (ruleK b a).map (·.2) ++ m) : r.rule = (a, r.adv (ruleK b a).length) := by
  obtain ⟨h1, h2, h3, h4, h5, h6, h7, h8, h9, h10⟩ := ruleOk_all h
  have hh := hasN_len a.c
  have hp : inR a.p = true := by unfold inR; rw [decide_eq_true_iff]; omega
  obtain ⟨n, p, c, x⟩ := a
  dsimp only at h1 h2 h3 h4 h5 h7 h8 h9 h10 hp hh
  have hl : (ruleK b ⟨n, p, c, x⟩).length = 4 + (itmK condK c).length + 1 + (itmK actK x).length + 1 := by
    simp only [ruleK, List.length_cons, List.length_append, List.length_nil]; omega
  have hr : r.rest = (1, [114, 117, 108, 101]) :: (1, n) :: (3, Lib.itoa p) :: (5, [58]) :: ((itmK condK c).map (·.2) ++ (5, [45, 62]) :: ((itmK actK x).map (·.2) ++ (5, [46]) :: m)) := by rw [hr]; simp [ruleK]
  rw [hl]
  cases c with
  | nil => simp at h4
  | cons c cs =>
  cases x with
  | nil => simp at h7
  | cons x xs =>
  have c1 := rest_cons hr
  have c2 := rest_cons c1.2
  have c3 := rest_cons c2.2
  have c4 := rest_cons c3.2
  have w1 := want_rest ho hr
  have w2 := name_rest (r := r.step) ho c1.2 h1
  have w3 := num_rest (r := r.step.step) hp ho c2.2
  have w4 := want_rest (r := r.step.step.step) ho c3.2
  obtain ⟨i1, i2, i3⟩ := items_rest (g := condR) (k := condK) (m := (5, [45, 62]) :: ((itmK actK (x :: xs)).map (·.2) ++ (5, [46]) :: m)) (by simp) (by simp) (f := r.l.length) (r := r.step.step.step.step) (fun y hy r m ho hr hm => condR_rest (h9 y hy) ho hr hm) ho c4.2 (Nat.le_refl _)
  have c5 := rest_cons i3
  have w5 := want_rest (r := r.step.step.step.step.adv (itmK condK (c :: cs)).length) ho i3
  obtain ⟨j1, j2, j3⟩ := items_rest (g := actR) (k := actK) (m := (5, [46]) :: m) (by simp) (by simp) (f := r.l.length) (r := (r.step.step.step.step.adv (itmK condK (c :: cs)).length).step) (fun y hy r m ho hr hm => actR_rest (by omega) (h10 y hy) ho hr hm) ho c5.2 (Nat.le_refl _)
  have w6 := want_rest (r := ((r.step.step.step.step.adv (itmK condK (c :: cs)).length).step).adv (itmK actK (x :: xs)).length) ho j3
  dsimp only at w1 w4 w5 w6
  unfold rule
  dsimp only
  rw [w1, w2]
  dsimp only
  rw [w3]
  dsimp only
  rw [w4, i1]
  dsimp only
  rw [i2]
  dsimp only
  rw [w5, j1]
  dsimp only
  rw [j2]
  dsimp only
  rw [w6, List.take_of_length_le (by omega), List.take_of_length_le (by omega)]
  refine Prod.ext rfl ?_
  simp only [adv, step]
  congr 1; omega
end Rd
theorem readR_back {l : List Tok} {i : Nat} {a : Rul} {b : Bs} {m : List KT} (h : ruleOk a = true) (hr : (l.drop i).map kt = (ruleK b a).map (·.2) ++ m) : readR l i = (a, i + (ruleK b a).length, 0) := by
  have e := Rd.rule_rest (r := rd0 l i) h rfl hr
  unfold readR
  rw [e]
  dsimp only
  rw [if_pos (show ((rd0 l i).adv (ruleK b a).length).endE = 0 from rfl), if_pos h]
  rfl
theorem lex_rule {a : Rul} (h : ruleOk a = true) {q : List (Bs × KT)} (hq : WovK [] q) (hs : stopH (weaveK q) = true) :
    errR (ruleT a ++ weaveK q) = 0 ∧ (toksR (ruleT a ++ weaveK q)).map kt = (ruleK [] a).map (·.2) ++ q.map (·.2) := by
  have hw := WovK.app (tail := []) (a := ruleK [] a) (b := q) (by rw [List.append_nil]; exact wov_rule h rfl hs) hq
  obtain ⟨h1, h2, _⟩ := wovK_R hw rfl
  rw [List.append_nil, weaveK_app, ruleK_T h, List.nil_append] at h1 h2
  exact ⟨h2, by rw [h1, posL_kt, List.map_append]⟩
theorem parse_rule {a : Rul} (h : ruleOk a = true) : parseR (ruleT a) = (a, 0) := by
  have h1 := lex_rule h (q := []) trivial rfl
  have e : ruleT a ++ weaveK [] = ruleT a := List.append_nil _
  rw [e] at h1
  have h2 := readR_back (l := toksR (ruleT a)) (i := 0) (m := []) h (by rw [List.drop_zero]; exact h1.2)
  have h3 : (toksR (ruleT a)).length = (ruleK [] a).length := by have := congrArg List.length h1.2; simpa using this
  unfold parseR
  rw [if_pos h1.1, h2]
  dsimp only
  rw [if_pos ⟨rfl, by omega⟩]
theorem ruleT_inj {a b : Rul} (ha : ruleOk a = true) (hb : ruleOk b = true) : decide (ruleT a = ruleT b) = decide (a = b) := by
  rw [decide_eq_decide]
  refine ⟨fun h => ?_, fun h => by rw [h]⟩
  have h1 := parse_rule ha
  rw [h, parse_rule hb] at h1
  exact (congrArg Prod.fst h1).symm
end Go.PV
namespace Go.PV
open Go
/-! what is read as a rule is right -/
namespace Rd
theorem want_op {r : Rd} {k : Int} {t : Bs} (h : (r.want k t).isOpen = true) : (r.want k t).i = r.i + 1 ∧ r.i < r.l.length := by
  unfold want at *
  split
  · rename_i hs; exact ⟨rfl, cur_lt (see_open hs).2⟩
  · rename_i hs
    rw [if_neg hs] at h
    split at h
    · simp [isOpen, fail] at h
    · rename_i ho; exact absurd h ho
theorem rule_l {r : Rd} (h : r.rule.2.isOpen = true) : r.i < r.rule.2.i ∧ r.rule.2.i ≤ r.l.length := by
  have e0 := want_l r 1 [114, 117, 108, 101]
  have e1 := name_l (r.want 1 [114, 117, 108, 101])
  unfold rule at *
  dsimp only at h ⊢
  generalize (r.want 1 [114, 117, 108, 101]).name = v1 at *
  have e2 := num_l v1.2
  generalize v1.2.num = v2 at *
  have e3 := want_l v2.2 5 [58]
  generalize v2.2.want 5 [58] = v3 at *
  have e4 := condR_l v3
  generalize v3.condR = v4 at *
  have e5 := many_l condR_l r.l.length v4.2
  generalize many condR r.l.length v4.2 = v5 at *
  have e6 := want_l v5.2 5 [45, 62]
  generalize v5.2.want 5 [45, 62] = v6 at *
  have e7 := actR_l v6
  generalize v6.actR = v7 at *
  have e8 := many_l actR_l r.l.length v7.2
  generalize many actR r.l.length v7.2 = v8 at *
  have e9 := want_op h
  have hl : v8.2.l = r.l := by rw [e8.1, e7.1, e6.1, e5.1, e4.1, e3.1, e2.1, e1.1, e0.1]
  rw [hl] at e9
  omega
end Rd
theorem readR_ok {l : List Tok} {i : Nat} (h : (readR l i).2.2 = 0) : ruleOk (readR l i).1 = true ∧ i < (readR l i).2.1 ∧ (readR l i).2.1 ≤ l.length := by
  have hr := @Rd.rule_l (rd0 l i)
  unfold readR at *
  dsimp only at h ⊢
  generalize (rd0 l i).rule = x at *
  by_cases he : x.2.endE = 0
  · rw [if_pos he] at h ⊢
    by_cases hk : ruleOk x.1 = true
    · rw [if_pos hk] at h ⊢
      have hb : x.2.bad = false ∧ x.2.over = false ∧ x.2.wrong = false := by
        unfold Rd.endE at he
        cases h1 : x.2.bad <;> cases h2 : x.2.over <;> cases h3 : x.2.wrong <;> simp [h1, h2, h3] at he ⊢
      have hI : x.2.endI i = x.2.i := by unfold Rd.endI; rw [hb.1, hb.2.1, hb.2.2]; rfl
      have ho : x.2.isOpen = true := by unfold Rd.isOpen; rw [hb.1, hb.2.1]; rfl
      obtain ⟨q1, q2⟩ := hr ho
      exact ⟨hk, by show i < x.2.endI i; rw [hI]; exact q1, by show x.2.endI i ≤ l.length; rw [hI]; exact q2⟩
    · rw [if_neg hk] at h; simp at h
  · rw [if_neg he] at h; simp at h
theorem ruleE_cases (r : Rul) : (ruleE r = 0 ∧ ruleOk r = true ∧ (ruleT r).length ≤ 20000 ∧ ruleX r = ruleT r) ∨ (ruleE r ≠ 0 ∧ ruleX r = [] ∧ (ruleOk r = true → ruleE r = 2 ∧ 20000 < (ruleT r).length) ∧ (ruleOk r = false → ruleE r = 1)) := by
  unfold ruleX ruleE
  cases h : ruleOk r with
  | false => right; exact ⟨by simp, by simp, by simp, by simp⟩
  | true =>
    by_cases hl : 20000 < (ruleT r).length
    · right; simp [hl]
    · left; exact ⟨by simp [hl], rfl, by omega, by simp [hl]⟩
end Go.PV
namespace Go.PV
open Go
/-! two rules, one behind the other -/
theorem wov_rule' {r : Rul} (h : ruleOk r = true) {b tail : Bs} (hb : blk b = true) (ht : okEnd (5, [46]) tail = true) : WovK tail (ruleK b r) := by
  obtain ⟨h1, h2, h3, h4, h5, h6, h7, h8, h9, h10⟩ := ruleOk_all h
  have hh := hasN_len r.c
  have hr : inR r.p = true := by unfold inR; rw [decide_eq_true_iff]; omega
  have hc : r.c ≠ [] := by intro e; rw [e] at h4; simp at h4
  have ha : r.a ≠ [] := by intro e; rw [e] at h7; simp at h7
  have tc : ∀ c ∈ r.c, weaveK (condK [32] c) = 32 :: condT c := fun c hc => condK_T (h9 c hc) [32]
  have ta : ∀ x ∈ r.a, weaveK (actK [32] x) = 32 :: actT x := fun x hx => actK_T (h10 x hx) [32]
  have w2 : WovK tail (itmK actK r.a ++ [([], (5, [46]))]) := WovK.app (wov_items (t := actT) rfl ta (fun x hx w hw => wov_act (by omega) (h10 x hx) rfl hw)) ⟨rfl, by unfold Tk; decide +kernel, ht, trivial⟩
  have e2 : weaveK (itmK actK r.a ++ [([], (5, [46]))]) ++ tail = 32 :: (Lib.join (r.a.map actT) [44, 32] ++ ([46] ++ tail)) := by
    rw [weaveK_app, itmK_T (t := actT) ha ta]; simp [weaveK]
  have w1 : WovK tail (itmK condK r.c ++ ([32], (5, [45, 62])) :: (itmK actK r.a ++ [([], (5, [46]))])) := by
    refine WovK.app (wov_items (t := condT) rfl tc (fun c hc w hw => wov_cond (h9 c hc) rfl hw)) ⟨rfl, by unfold Tk; decide +kernel, ?_, w2⟩
    rw [e2]; exact okEnd_stop rfl
  refine ⟨hb, by unfold Tk; decide +kernel, okEnd_stop rfl, rfl, tk_word (large := false) (nameS_word h1), okEnd_stop rfl, rfl, tk_num (by rw [refNum_itoa hr]; rfl), okEnd_stop rfl, rfl, by unfold Tk; decide +kernel, ?_, w1⟩
  rw [weaveK_app, itmK_T (t := condT) hc tc]; exact okEnd_stop rfl
theorem rule_r (r : Rul) : ∃ u, ruleT r = 114 :: u := ⟨_, rfl⟩
theorem lex_two {a b : Rul} (ha : ruleOk a = true) (hb : ruleOk b = true) (sep : Bs) (hs : blk sep = true) (he : okEnd (5, [46]) (sep ++ ruleT b) = true) :
    errR (ruleT a ++ (sep ++ ruleT b)) = 0 ∧ (toksR (ruleT a ++ (sep ++ ruleT b))).map kt = (ruleK [] a).map (·.2) ++ ((ruleK sep b).map (·.2) ++ []) := by
  have hw := WovK.app (tail := []) (a := ruleK [] a) (b := ruleK sep b) (by rw [List.append_nil, ruleK_T hb]; exact wov_rule' ha rfl he) (wov_rule hb hs rfl)
  obtain ⟨h1, h2, _⟩ := wovK_R hw rfl
  rw [List.append_nil, weaveK_app, ruleK_T ha, ruleK_T hb, List.nil_append] at h1 h2
  exact ⟨h2, by rw [h1, posL_kt, List.map_append, List.append_nil]⟩
theorem read_two {a b : Rul} (ha : ruleOk a = true) (hb : ruleOk b = true) : errR (ruleT a ++ ([10] ++ ruleT b)) = 0 ∧ ∃ n : Nat, n ≤ (toksR (ruleT a ++ ([10] ++ ruleT b))).length ∧ readR (toksR (ruleT a ++ ([10] ++ ruleT b))) 0 = (a, n, 0) ∧ readR (toksR (ruleT a ++ ([10] ++ ruleT b))) n = (b, (toksR (ruleT a ++ ([10] ++ ruleT b))).length, 0) := by
  obtain ⟨h1, h2⟩ := lex_two ha hb [10] rfl (okEnd_stop rfl)
  have hl := congrArg List.length h2
  simp only [List.length_map, List.length_append, List.length_nil, Nat.add_zero] at hl
  refine ⟨h1, (ruleK [] a).length, by omega, ?_, ?_⟩
  · have := readR_back (i := 0) ha (by rw [List.drop_zero]; exact h2)
    rw [this, Nat.zero_add]
  · have h3 := rest_add (i := 0) (by rw [List.drop_zero]; exact h2)
    rw [Nat.zero_add, List.length_map] at h3
    have := readR_back (i := (ruleK [] a).length) hb h3
    rw [this, ← hl]
theorem parse_two {a b : Rul} (ha : ruleOk a = true) (hb : ruleOk b = true) : (parseR (ruleT a ++ ruleT b)).2 = 7 := by
  obtain ⟨u, hu⟩ := rule_r b
  obtain ⟨h1, h2⟩ := lex_two ha hb [] rfl (by rw [List.nil_append, hu]; exact okEnd_sign (by decide) (by decide))
  rw [List.nil_append] at h1 h2
  have hl := congrArg List.length h2
  simp only [List.length_map, List.length_append, List.length_nil, Nat.add_zero] at hl
  have hp : 0 < (ruleK [] b).length := by unfold ruleK; simp
  have hr := readR_back (i := 0) ha (by rw [List.drop_zero]; exact h2)
  unfold parseR
  rw [if_pos h1, hr]
  dsimp only
  rw [if_neg (fun q => q.2 (by omega))]
end Go.PV
namespace Go.PV
open Go
/-! the page's reader of expressions: a machine with a stack -/
def pushS (t : Trm) : Stp := ⟨if t.v = [] then 2 else 1, t.v, t.x⟩
namespace Rf
def closeF : List (Option Int) → List Stp → Rf → Option (List (Option Int) × List Stp) × Rf
  | some k :: st, l, q => if (q.take 5 [41]).ok then closeF st (l ++ [⟨k, [], zeroV⟩]) (q.take 5 [41]) else (none, q.take 5 [41])
  | none :: st, l, q => (some (none :: st, l), q)
  | [], l, q => (some ([], l), q)
def signF (q : Rf) : Option Int := if q.is 5 [43] then some 3 else if q.is 5 [45] then some 4 else if q.is 5 [42] then some 5 else none
def contF (go : Rf → List (Option Int) → List Stp → List Stp × Bool × Rf) (q : Rf) (st : List (Option Int)) (l : List Stp) : List Stp × Bool × Rf :=
  match closeF st l q with
  | (none, q') => ([], false, q')
  | (some ([], l'), q') => (l', false, q')
  | (some (_ :: st', l'), q') => match signF q' with
    | some k => go q'.step (some k :: st') l'
    | none => ([], false, q'.fail)
def exprF : Nat → Rf → List (Option Int) → List Stp → List Stp × Bool × Rf
  | 0, q, _, _ => ([], false, q)
  | f + 1, q, st, l =>
    if q.ok then
      if q.is 5 [40] then
        if 15 < st.length + 1 then ([], true, q.step) else exprF f q.step (none :: st) l
      else if q.term.2.ok then contF (exprF f) q.term.2 st (l ++ [pushS q.term.1])
      else ([], false, q.term.2)
    else ([], false, q)
end Rf
theorem ok40 : tokOk ⟨5, [40], (0, 0)⟩ = true := by decide +kernel
theorem ok41 : tokOk ⟨5, [41], (0, 0)⟩ = true := by decide +kernel
theorem reck_sim {r : Rd} {q : Rf} (h : Sim r q) (ho : q.ok = true) : match q.signF with
    | some k => r.reckons = (k, r.step)
    | none => r.reckons = (0, r.fail) := by
  unfold Rf.signF Rd.reckons
  rw [h.see (k := 5) (s := [43]) (by decide +kernel), h.see (k := 5) (s := [45]) (by decide +kernel), h.see (k := 5) (s := [42]) (by decide +kernel), ho, h.isOpen, ho]
  simp only [Bool.true_and]
  by_cases h1 : q.is 5 [43] = true
  · rw [if_pos h1, if_pos h1]
  · rw [if_neg h1, if_neg h1]
    by_cases h2 : q.is 5 [45] = true
    · rw [if_pos h2, if_pos h2]
    · rw [if_neg h2, if_neg h2]
      by_cases h3 : q.is 5 [42] = true
      · rw [if_pos h3, if_pos h3]
      · rw [if_neg h3, if_neg h3]; simp
theorem Rf.is_up {q : Rf} {k : Int} {s : Bs} (h : q.is k s = true) : q.i < q.l.length := by
  unfold Rf.is Rf.tok at h
  cases hg : q.l[q.i]? with
  | none => rw [hg] at h; simp at h
  | some t => exact (List.getElem?_eq_some_iff.1 hg).1
theorem Rf.sign_up {q : Rf} {k : Int} (h : q.signF = some k) : q.i < q.l.length := by
  unfold Rf.signF at h
  split at h
  · rename_i h1; exact Rf.is_up h1
  · split at h
    · rename_i h1; exact Rf.is_up h1
    · split at h
      · rename_i h1; exact Rf.is_up h1
      · cases h
theorem Rf.term_up {q : Rf} (h : q.term.2.ok = true) (ho : q.ok = true) : q.term.2 = q.step ∧ q.i < q.l.length := by
  unfold Rf.term at *
  cases hg : q.tok with
  | none => rw [hg] at h; simp [Rf.fail] at h
  | some t =>
    rw [hg] at h
    dsimp only at h ⊢
    split at h
    · rename_i h1
      rw [if_pos h1]
      refine ⟨rfl, ?_⟩
      unfold Rf.tok at hg
      cases hq : q.l[q.i]? with
      | none => rw [hq] at hg; cases hg
      | some u => exact (List.getElem?_eq_some_iff.1 hq).1
    · simp [Rf.fail] at h
/-- how the two stand behind an operand -/
def Beh (x : List Stp × Rd) (q : Rf) (f : Nat) (st : List (Option Int)) (l : List Stp) : Prop :=
  (x.2.over = true ∧ (Rf.exprF f q st l).2.1 = true) ∨
  (x.2.over = false ∧ x.2.isOpen = false ∧ ∃ q', Sim x.2 q' ∧ Rf.exprF f q st l = ([], false, q')) ∨
  (∃ f' q', Sim x.2 q' ∧ q'.ok = true ∧ q'.l = q.l ∧ q'.l.length < f' + 1 + q'.i ∧ q.i < q'.i ∧ Rf.exprF f q st l = Rf.contF (Rf.exprF f') q' st (l ++ x.1))
theorem beh_leaf {r : Rd} {q : Rf} {f : Nat} {st : List (Option Int)} {l : List Stp} (h : Sim r q) (ho : q.ok = true) (hf : q.l.length < f + q.i) (h1 : 1 ≤ f) (hs : q.is 5 [40] = false) : Beh ([⟨if r.term.1.v = [] then 2 else 1, r.term.1.v, r.term.1.x⟩], r.term.2) q f st l := by
  obtain ⟨t1, t2⟩ := h.term
  obtain ⟨f, rfl⟩ : ∃ g, f = g + 1 := ⟨f - 1, by omega⟩
  cases hok : q.term.2.ok with
  | true =>
    obtain ⟨e1, e2⟩ := Rf.term_up hok ho
    refine .inr (.inr ⟨f, q.term.2, t2, hok, by rw [e1]; rfl, by rw [e1]; show q.l.length < f + 1 + (q.i + 1); omega, by rw [e1]; show q.i < q.i + 1; omega, ?_⟩)
    rw [Rf.exprF, if_pos ho, if_neg (by rw [hs]; simp), if_pos hok, ← t1]
    rfl
  | false =>
    refine .inr (.inl ⟨t2.over, by rw [t2.isOpen, hok], q.term.2, t2, ?_⟩)
    rw [Rf.exprF, if_pos ho, if_neg (by rw [hs]; simp), if_neg (by rw [hok]; simp)]
theorem beh_part : ∀ (n : Nat) {r : Rd} {q : Rf} {f : Nat} {st : List (Option Int)} {l : List Stp}, Sim r q → q.ok = true → q.l.length < f + q.i → 1 ≤ f → st.length + n = 15 → Beh (r.part n) q f st l
  | 0, r, q, f, st, l, h, ho, hf, h1, hn => by
    have hsee := h.see ok40
    rw [ho, Bool.true_and] at hsee
    unfold Rd.part
    cases hs : q.is 5 [40] with
    | true =>
      rw [hs] at hsee
      rw [if_pos hsee]
      obtain ⟨f, rfl⟩ : ∃ g, f = g + 1 := ⟨f - 1, by omega⟩
      refine .inl ⟨rfl, ?_⟩
      rw [Rf.exprF, if_pos ho, if_pos hs, if_pos (by omega)]
    | false =>
      rw [hs] at hsee
      rw [if_neg (by rw [hsee]; simp)]
      exact beh_leaf h ho hf h1 hs
  | n + 1, r, q, f, st, l, h, ho, hf, h1, hn => by
    have hsee := h.see ok40
    rw [ho, Bool.true_and] at hsee
    unfold Rd.part
    cases hs : q.is 5 [40] with
    | false =>
      rw [hs] at hsee
      rw [if_neg (by rw [hsee]; simp)]
      exact beh_leaf h ho hf h1 hs
    | true =>
      rw [hs] at hsee
      rw [if_pos hsee]
      have hlt := Rf.is_up hs
      obtain ⟨f, rfl⟩ : ∃ g, f = g + 1 := ⟨f - 1, by omega⟩
      have e0 : Rf.exprF (f + 1) q st l = Rf.exprF f q.step (none :: st) l := by
        rw [Rf.exprF, if_pos ho, if_pos hs, if_neg (by omega)]
      have ql : q.step.l = q.l := rfl
      have qi : q.step.i = q.i + 1 := rfl
      have ih := beh_part n (l := l) (st := none :: st) (f := f) h.step (by exact ho) (by rw [ql, qi]; omega) (by omega) (by simp; omega)
      dsimp only
      generalize r.step.part n = a at *
      have hnot : ∀ {b : Rd}, b.isOpen = false → b.reckons = (0, b) := fun {b} hb => by
        unfold Rd.reckons Rd.see
        rw [hb]; simp
      rcases ih with ⟨c1, c2⟩ | ⟨c1, c2, q', c3, c4⟩ | ⟨f', q', c1, c2, c3, c4, c5, c6⟩
      · have hb : a.2.isOpen = false := by unfold Rd.isOpen; rw [c1]; simp
        rw [hnot hb]
        dsimp only
        rw [if_neg (by rw [hb]; simp)]
        exact .inl ⟨c1, by rw [e0]; exact c2⟩
      · rw [hnot c2]
        dsimp only
        rw [if_neg (by rw [c2]; simp)]
        exact .inr (.inl ⟨c1, c2, q', c3, by rw [e0]; exact c4⟩)
      · have hr := reck_sim c1 c2
        have e1 : Rf.contF (Rf.exprF f') q' (none :: st) (l ++ a.1) = match q'.signF with
            | some k => Rf.exprF f' q'.step (some k :: st) (l ++ a.1)
            | none => ([], false, q'.fail) := rfl
        rw [e1] at c6
        cases hsg : q'.signF with
        | none =>
          rw [hsg] at hr c6
          dsimp only at hr c6
          rw [hr]
          dsimp only
          rw [if_neg (by simp [Rd.isOpen, Rd.fail])]
          exact .inr (.inl ⟨c1.over, by simp [Rd.isOpen, Rd.fail], q'.fail, c1.fail, by rw [e0]; exact c6⟩)
        | some k =>
          rw [hsg] at hr c6
          dsimp only at hr c6
          rw [hr]
          dsimp only
          have hop : a.2.step.isOpen = true := by show a.2.isOpen = true; rw [c1.isOpen, c2]
          rw [if_pos hop]
          have hlt2 := Rf.sign_up hsg
          have ql' : q'.step.l = q'.l := rfl
          have qi' : q'.step.i = q'.i + 1 := rfl
          have qk' : q'.step.ok = q'.ok := rfl
          have ih2 := beh_part n (l := l ++ a.1) (st := some k :: st) (f := f') c1.step (by rw [qk']; exact c2) (by rw [ql', qi']; omega) (by omega) (by simp; omega)
          generalize a.2.step.part n = c at *
          rcases ih2 with ⟨d1, d2⟩ | ⟨d1, d2, q2, d3, d4⟩ | ⟨f2, q2, d1, d2, d3, d4, d5, d6⟩
          · have hb : c.2.isOpen = false := by unfold Rd.isOpen; rw [d1]; simp
            have hw : c.2.want 5 [41] = c.2 := by unfold Rd.want Rd.see; rw [hb]; simp
            rw [hw]
            exact .inl ⟨d1, by rw [e0, c6]; exact d2⟩
          · have hw : c.2.want 5 [41] = c.2 := by unfold Rd.want Rd.see; rw [d2]; simp
            rw [hw]
            exact .inr (.inl ⟨d1, d2, q2, d3, by rw [e0, c6]; exact d4⟩)
          · have hwt := d1.want ok41
            have e2 : Rf.contF (Rf.exprF f2) q2 (some k :: st) (l ++ a.1 ++ c.1) = if (q2.take 5 [41]).ok then Rf.contF (Rf.exprF f2) (q2.take 5 [41]) st (l ++ a.1 ++ c.1 ++ [⟨k, [], zeroV⟩]) else ([], false, q2.take 5 [41]) := by
              unfold Rf.contF
              rw [Rf.closeF]
              by_cases hq : (q2.take 5 [41]).ok = true
              · rw [if_pos hq, if_pos hq]
              · rw [if_neg hq, if_neg hq]
            rw [e2] at d6
            cases hok : (q2.take 5 [41]).ok with
            | false =>
              rw [hok, if_neg (by simp)] at d6
              exact .inr (.inl ⟨hwt.over, by rw [hwt.isOpen, hok], _, hwt, by rw [e0, c6]; exact d6⟩)
            | true =>
              rw [hok, if_pos rfl] at d6
              have hl2 := Rf.take_l q2 5 [41]
              refine .inr (.inr ⟨f2, q2.take 5 [41], hwt, hok, by rw [hl2.1, d3, ql', c3]; rfl, ?_, ?_, ?_⟩)
              · rw [hl2.1]; have := hl2.2; omega
              · have := hl2.2
                rw [qi'] at d5
                rw [qi] at c5
                omega
              · rw [e0, c6, d6]
                simp [List.append_assoc]
/-- an expression: the page's and the program's -/
theorem expr_sim {r : Rd} {q : Rf} {f : Nat} (h : Sim r q) (ho : q.ok = true) (hf : q.l.length < f + q.i) (h1 : 1 ≤ f) :
    (r.expr.2.over = true ∧ (Rf.exprF f q [] []).2.1 = true) ∨
    (r.expr.2.over = false ∧ r.expr.2.isOpen = false ∧ ∃ q', Sim r.expr.2 q' ∧ Rf.exprF f q [] [] = ([], false, q')) ∨
    (∃ q', Sim r.expr.2 q' ∧ q'.ok = true ∧ q'.l = q.l ∧ q.i < q'.i ∧ Rf.exprF f q [] [] = (r.expr.1, false, q') ∧ (r.wrong = false → r.expr.2.wrong = decide (15 < r.expr.1.length))) := by
  have hw : ∀ n (r : Rd), (r.part n).2.wrong = r.wrong := fun n => by
    induction n with
    | zero =>
      intro r
      unfold Rd.part
      split
      · rfl
      · dsimp only; unfold Rd.term
        split
        · split <;> rfl
        · rfl
    | succ n ih =>
      intro r
      unfold Rd.part
      have ht : ∀ r : Rd, r.term.2.wrong = r.wrong := fun r => by
        unfold Rd.term
        split
        · split <;> rfl
        · rfl
      have hk : ∀ r : Rd, r.reckons.2.wrong = r.wrong := fun r => by
        unfold Rd.reckons
        split
        · rfl
        · split
          · rfl
          · split
            · rfl
            · dsimp only; split <;> rfl
      have hv : ∀ (r : Rd) k t, (r.want k t).wrong = r.wrong := fun r k t => by
        unfold Rd.want
        split
        · rfl
        · split <;> rfl
      split
      · dsimp only
        split
        · dsimp only; rw [hv, ih, hk, ih]; rfl
        · dsimp only; rw [hk, ih]; rfl
      · dsimp only; rw [ht]
  have hb := beh_part 15 (r := r) (q := q) (f := f) (st := []) (l := []) h ho hf h1 rfl
  have hop : r.isOpen = true := by rw [h.isOpen]; exact ho
  unfold Rd.expr
  rw [if_pos hop]
  have hwp := hw 15 r
  generalize r.part 15 = x at *
  dsimp only
  have flag : ∀ (P : Rd → Prop), (∀ b, P { x.2 with wrong := b }) → P x.2 → P (if 15 < x.1.length then { x.2 with wrong := true } else x.2) := fun P h1 h2 => by
    split
    · exact h1 true
    · exact h2
  rcases hb with ⟨c1, c2⟩ | ⟨c1, c2, q', c3, c4⟩ | ⟨f', q', c1, c2, c3, c4, c5, c6⟩
  · exact .inl ⟨flag (fun y => y.over = true) (fun _ => c1) c1, c2⟩
  · refine .inr (.inl ⟨flag (fun y => y.over = false) (fun _ => c1) c1, flag (fun y => y.isOpen = false) (fun _ => c2) c2, q', flag (fun y => Sim y q') (fun b => c3.wrong b) c3, c4⟩)
  · refine .inr (.inr ⟨q', flag (fun y => Sim y q') (fun b => c1.wrong b) c1, c2, c3, c5, by rw [c6]; rfl, fun hz => ?_⟩)
    by_cases hl : 15 < x.1.length
    · rw [if_pos hl]; simp [hl]
    · rw [if_neg hl, hwp, hz]; simp [hl]
end Go.PV
namespace Go.PV
open Go
/-! the page's reader of rules -/
namespace Rf
def wayF (q : Rf) : Int := if q.ok then (if q.is 5 [60, 61] then 4 else if q.is 5 [60] then 3 else if q.is 5 [33, 61] then 2 else if q.is 5 [61] then 1 else 0) else 0
def exprO (q : Rf) : List Stp × Bool × Rf := exprF (q.l.length + 1) q [] []
def condF (q : Rf) : Cnd × Bool × Rf :=
  if q.is 1 [110, 111, 116] then (⟨2, q.step.atom.1, 0, [], []⟩, false, q.step.atom.2)
  else if q.is 5 [91] then
    let a := q.step.exprO
    if a.2.1 then (⟨3, zeroA, 0, a.1, []⟩, true, a.2.2) else
    let w := a.2.2.wayF
    let p : Rf := if w = 0 then a.2.2.fail else a.2.2
    if p.ok then
      let b := p.step.exprO
      if b.2.1 then (⟨3, zeroA, w, a.1, b.1⟩, true, b.2.2) else (⟨3, zeroA, w, a.1, b.1⟩, false, b.2.2.take 5 [93])
    else (⟨3, zeroA, w, a.1, []⟩, false, p.take 5 [93])
  else (⟨1, q.atom.1, 0, [], []⟩, false, q.atom.2)
def loopF {α : Type} (g : Rf → α × Bool × Rf) : Nat → Rf → List α → List α × Bool × Rf
  | 0, q, l => (l, false, q)
  | f + 1, q, l =>
    if q.ok then
      let c := g q
      if c.2.1 then (l, true, c.2.2) else
      if c.2.2.ok && c.2.2.is 5 [44] then loopF g f c.2.2.step (l ++ [c.1]) else (l ++ [c.1], false, c.2.2)
    else (l, false, q)
abbrev condsF := loopF condF
/-- the arguments behind '(' or ',' -/
def argsF : Nat → Rf → List (List Stp) → List (List Stp) × Bool × Rf
  | 0, q, l => (l, false, q.step)
  | f + 1, q, l =>
    let a := q.step.exprO
    if a.2.1 then (l, true, a.2.2) else
    if a.2.2.ok && a.2.2.is 5 [44] then argsF f a.2.2 (l ++ [a.1]) else (l ++ [a.1], false, a.2.2)
def negF (q : Rf) : Bool := match q.tok with
  | some t => decide (t.k = 3) && decide ((refNumS t.t).getD 0 < 0)
  | none => false
def actF (q : Rf) : Act × Bool × Rf :=
  if q.is 1 [100, 114, 111, 112] then
    let p : Rf := if q.step.negF then q.step.fail else q.step
    (⟨2, [], [], p.num.1⟩, false, p.num.2)
  else
    let x := (q.take 5 [43]).name
    if x.2.ok && x.2.is 5 [40] then
      let a := argsF (q.l.length + 1) x.2 []
      if a.2.1 then (⟨1, x.1, a.1, 0⟩, true, a.2.2) else (⟨1, x.1, a.1, 0⟩, false, a.2.2.take 5 [41])
    else (⟨1, x.1, [], 0⟩, false, x.2)
abbrev actsF := loopF actF
def ruleF (q : Rf) : Rul × Bool × Rf :=
  let n := (q.take 1 [114, 117, 108, 101]).name
  let p := n.2.num
  let c := condsF (q.l.length + 1) (p.2.take 5 [58]) []
  if c.2.1 then (⟨n.1, p.1, c.1, []⟩, true, c.2.2) else
  let a := actsF (q.l.length + 1) (c.2.2.take 5 [45, 62]) []
  if a.2.1 then (⟨n.1, p.1, c.1, a.1⟩, true, a.2.2) else (⟨n.1, p.1, c.1, a.1⟩, false, a.2.2.take 5 [46])
end Rf
end Go.PV
namespace Go.PV
open Go
/-! the two readers of rules say the same -/
theorem Rd.term_w (r : Rd) : r.term.2.wrong = r.wrong := by
  unfold Rd.term
  split
  · split <;> rfl
  · rfl
theorem Rd.reckons_w (r : Rd) : r.reckons.2.wrong = r.wrong := by
  unfold Rd.reckons
  split
  · rfl
  · split
    · rfl
    · split
      · rfl
      · dsimp only; split <;> rfl
theorem Rd.want_w (r : Rd) (k : Int) (t : Bs) : (r.want k t).wrong = r.wrong := by
  unfold Rd.want
  split
  · rfl
  · split <;> rfl
theorem Rd.part_w (n : Nat) : ∀ r : Rd, (r.part n).2.wrong = r.wrong := by
  induction n with
  | zero =>
    intro r
    unfold Rd.part
    split
    · rfl
    · dsimp only; exact Rd.term_w r
  | succ n ih =>
    intro r
    unfold Rd.part
    split
    · dsimp only
      split
      · dsimp only; rw [Rd.want_w, ih]; show (Rd.reckons _).2.wrong = _; rw [Rd.reckons_w, ih]; rfl
      · dsimp only; rw [Rd.reckons_w, ih]; rfl
    · dsimp only; rw [Rd.term_w]
theorem Rd.expr_w {r : Rd} (h : r.wrong = true) : r.expr.2.wrong = true := by
  unfold Rd.expr
  split
  · dsimp only
    split
    · rfl
    · rw [Rd.part_w, h]
  · exact h
theorem Rd.name_w (r : Rd) : r.name.2.wrong = r.wrong := by
  unfold Rd.name
  split
  · split
    · split <;> rfl
    · rfl
  · rfl
theorem Rd.num_w (r : Rd) : r.num.2.wrong = r.wrong := by
  unfold Rd.num
  split
  · split
    · split <;> rfl
    · rfl
  · rfl
theorem Rd.way_w (r : Rd) : r.way.2.wrong = r.wrong := by
  unfold Rd.way
  split
  · rfl
  · split
    · rfl
    · split
      · rfl
      · split
        · rfl
        · dsimp only; split <;> rfl
theorem Rd.atom_w {r : Rd} (h : r.wrong = true) : r.atom.2.wrong = true := by
  unfold Rd.atom
  dsimp only
  split
  · dsimp only
    split
    · rfl
    · unfold Rd.brack
      dsimp only
      rw [Rd.want_w, Sim.args_w, Rd.term_w]
      show r.name.2.wrong = true
      rw [Rd.name_w, h]
  · rw [Rd.name_w, h]
/-- an expression read by both -/
theorem exprO_sim {r : Rd} {q : Rf} (h : Sim r q) (ho : q.ok = true) :
    (r.expr.2.over = true ∧ q.exprO.2.1 = true) ∨
    (q.exprO.2.1 = false ∧ Sim r.expr.2 q.exprO.2.2 ∧ (q.exprO.2.2.ok = true → q.exprO.1 = r.expr.1 ∧ q.exprO.2.2.l = q.l ∧ q.i < q.exprO.2.2.i ∧
      ((exprOk q.exprO.1 = false ∧ r.expr.2.wrong = true) ∨ r.expr.2.wrong = r.wrong))) := by
  rcases expr_sim (f := q.l.length + 1) h ho (by omega) (by omega) with ⟨a, b⟩ | ⟨a, b, q', c, d⟩ | ⟨q', a, b, c, d, e, w⟩
  · exact .inl ⟨a, b⟩
  · refine .inr ?_
    unfold Rf.exprO
    rw [d]
    refine ⟨rfl, c, fun hk => ?_⟩
    rw [c.isOpen] at b
    rw [b] at hk
    cases hk
  · refine .inr ?_
    unfold Rf.exprO
    rw [e]
    refine ⟨rfl, a, fun _ => ⟨rfl, c, d, ?_⟩⟩
    dsimp only
    cases hw : r.wrong with
    | true => exact .inr (Rd.expr_w hw)
    | false =>
      have w := w hw
      by_cases hl : 15 < r.expr.1.length
      · refine .inl ⟨?_, by rw [w, decide_eq_true hl]⟩
        unfold exprOk
        rw [decide_eq_false (by omega)]
        rfl
      · exact .inr (by rw [w, decide_eq_false hl])
theorem Rf.name_up {q : Rf} (h : q.name.2.ok = true) : q.name.2.i = q.i + 1 := by
  unfold Rf.name at *
  split
  · split
    · rfl
    · rename_i t ht hn
      rw [ht] at h
      dsimp only at h
      rw [if_neg hn] at h
      cases h
  · rename_i ht
    rw [ht] at h
    cases h
theorem Rf.args_i : ∀ (f : Nat) (q : Rf), q.i ≤ (Rf.args f q).2.i
  | 0, q => Nat.le_refl _
  | f + 1, q => by
    unfold Rf.args
    split
    · dsimp only
      have h1 := Rf.args_i f q.step.term.2
      have h2 := Rf.term_l q.step
      have e : q.step.i = q.i + 1 := rfl
      omega
    · exact Nat.le_refl _
theorem Rf.atom_up {q : Rf} (h : q.atom.2.ok = true) : q.i < q.atom.2.i := by
  unfold Rf.atom at *
  split
  · rename_i hc
    simp only [Bool.and_eq_true] at hc
    have h0 := Rf.name_up hc.1
    dsimp only
    have h1 := (Rf.take_l (Rf.args q.name.2.l.length q.name.2.step.term.2).2 5 [41]).2
    have h2 := Rf.args_i q.name.2.l.length q.name.2.step.term.2
    have h3 := Rf.term_l q.name.2.step
    have e : q.name.2.step.i = q.name.2.i + 1 := rfl
    omega
  · rename_i hc
    rw [if_neg hc] at h
    have h0 := Rf.name_up h
    dsimp only
    omega
theorem atom_sim {r : Rd} {q : Rf} (h : Sim r q) : Sim r.atom.2 q.atom.2 ∧ (q.atom.2.ok = true → q.i < q.atom.2.i ∧
    ((atomOk q.atom.1 = false ∧ r.atom.2.wrong = true) ∨ (q.atom.1 = r.atom.1 ∧ r.atom.2.wrong = r.wrong))) := by
  obtain ⟨h1, h2, h3⟩ := h.atom
  refine ⟨h2, fun hk => ⟨Rf.atom_up hk, ?_⟩⟩
  by_cases hl : 5 < q.atom.1.a.length
  · refine .inl ⟨?_, ?_⟩
    · unfold atomOk
      rw [decide_eq_false (by omega)]
      simp
    · cases hw : r.wrong with
      | true => exact Rd.atom_w hw
      | false => rw [h3 hw, decide_eq_true hl]
  · refine .inr ⟨?_, ?_⟩
    · rw [h1, List.take_of_length_le (by omega)]
    · cases hw : r.wrong with
      | true => rw [Rd.atom_w hw]
      | false => rw [h3 hw, decide_eq_false hl]
theorem Rf.is_eq {q : Rf} {k k' : Int} {a b : Bs} (h : q.is k a = true) (h' : q.is k' b = true) : k = k' ∧ a = b := by
  unfold Rf.is at *
  cases hg : q.tok with
  | none => rw [hg] at h; cases h
  | some t =>
    rw [hg] at h h'
    simp only [Bool.and_eq_true, decide_eq_true_eq] at h h'
    exact ⟨h.1.symm.trans h'.1, h.2.symm.trans h'.2⟩
theorem way_sim {r : Rd} {q : Rf} (h : Sim r q) : r.way.1 = q.wayF ∧ Sim r.way.2 (if q.wayF = 0 then q.fail else q.step) ∧ (q.wayF ≠ 0 → q.ok = true) := by
  unfold Rd.way Rf.wayF
  rw [h.see (k := 5) (s := [61]) (by decide +kernel), h.see (k := 5) (s := [33, 61]) (by decide +kernel), h.see (k := 5) (s := [60]) (by decide +kernel), h.see (k := 5) (s := [60, 61]) (by decide +kernel), h.isOpen]
  cases ho : q.ok with
  | false => exact ⟨by simp, by simpa using h.shut ho, by simp⟩
  | true =>
    simp only [Bool.true_and]
    have ne : ∀ {a b : Bs}, a ≠ b → q.is 5 a = true → q.is 5 b = false := fun hab ha => by
      cases hb : q.is 5 _ with
      | false => rfl
      | true => exact absurd (Rf.is_eq ha hb).2 hab
    cases h1 : q.is 5 [61] with
    | true =>
      rw [ne (b := [33, 61]) (by decide) h1, ne (b := [60]) (by decide) h1, ne (b := [60, 61]) (by decide) h1]
      exact ⟨by simp, by simpa using h.step, by simp⟩
    | false =>
      cases h2 : q.is 5 [33, 61] with
      | true =>
        rw [ne (b := [60]) (by decide) h2, ne (b := [60, 61]) (by decide) h2]
        exact ⟨by simp, by simpa using h.step, by simp⟩
      | false =>
        cases h3 : q.is 5 [60] with
        | true =>
          rw [ne (b := [60, 61]) (by decide) h3]
          exact ⟨by simp, by simpa using h.step, by simp⟩
        | false =>
          cases h4 : q.is 5 [60, 61] with
          | true => exact ⟨by simp, by simpa using h.step, by simp⟩
          | false => exact ⟨by simp, by simpa using h.fail, by simp⟩
end Go.PV
namespace Go.PV
open Go
theorem Rd.shut_open {r : Rd} (h : r.over = true) : r.isOpen = false := by unfold Rd.isOpen; rw [h]; simp
theorem Rd.expr_shut {r : Rd} (h : r.isOpen = false) : r.expr = ([], r) := by unfold Rd.expr; rw [h]; rfl
theorem Rd.way_shut {r : Rd} (h : r.isOpen = false) : r.way = (0, r) := by unfold Rd.way Rd.see; rw [h]; rfl
theorem Rd.want_shut {r : Rd} (h : r.isOpen = false) (k : Int) (t : Bs) : r.want k t = r := by unfold Rd.want Rd.see; rw [h]; rfl
theorem Rf.take_ok2 {q : Rf} {k : Int} {s : Bs} (h : (q.take k s).ok = true) : q.ok = true ∧ q.take k s = q.step := by
  unfold Rf.take at *
  split
  · rename_i h1
    simp only [Bool.and_eq_true] at h1
    exact ⟨h1.1, rfl⟩
  · rename_i h1
    rw [if_neg h1] at h
    cases h
theorem condOk_l {w : Int} {a b : List Stp} (h : exprOk a = false ∨ exprOk b = false) : condOk ⟨3, zeroA, w, a, b⟩ = false := by
  unfold condOk guardOk
  rcases h with h | h <;> simp [h]
theorem cond_sim {r : Rd} {q : Rf} (h : Sim r q) (ho : q.ok = true) :
    (r.condR.2.over = true ∧ q.condF.2.1 = true) ∨
    (q.condF.2.1 = false ∧ Sim r.condR.2 q.condF.2.2 ∧ (q.condF.2.2.ok = true → q.i < q.condF.2.2.i ∧
      ((condOk q.condF.1 = false ∧ r.condR.2.wrong = true) ∨ (q.condF.1 = r.condR.1 ∧ r.condR.2.wrong = r.wrong)))) := by
  unfold Rd.condR Rf.condF
  rw [h.see (k := 5) (s := [91]) (by decide +kernel), h.see (k := 1) (s := [110, 111, 116]) (by decide +kernel), ho]
  simp only [Bool.true_and]
  cases hn : q.is 1 [110, 111, 116] with
  | true =>
    have hb : q.is 5 [91] = false := by
      cases hb : q.is 5 [91] with
      | false => rfl
      | true => exact absurd (Rf.is_eq hn hb).1 (by decide)
    rw [hb]
    simp only [Bool.false_eq_true, if_false, if_true]
    obtain ⟨h1, h2⟩ := atom_sim h.step
    refine .inr ⟨trivial, h1, fun hk => ?_⟩
    obtain ⟨h3, h4⟩ := h2 hk
    refine ⟨Nat.lt_of_succ_lt h3, ?_⟩
    rcases h4 with ⟨h4, h5⟩ | ⟨h4, h5⟩
    · exact .inl ⟨by unfold condOk; simp [h4], h5⟩
    · exact .inr ⟨by rw [h4], h5⟩
  | false =>
    cases hb : q.is 5 [91] with
    | false =>
      simp only [Bool.false_eq_true, if_false]
      obtain ⟨h1, h2⟩ := atom_sim h
      refine .inr ⟨trivial, h1, fun hk => ?_⟩
      obtain ⟨h3, h4⟩ := h2 hk
      refine ⟨h3, ?_⟩
      rcases h4 with ⟨h4, h5⟩ | ⟨h4, h5⟩
      · exact .inl ⟨by unfold condOk; simp [h4], h5⟩
      · exact .inr ⟨by rw [h4], h5⟩
    | true =>
      simp only [Bool.false_eq_true, if_false, if_true]
      have hq := exprO_sim h.step (q := q.step) ho
      rcases hq with ⟨a1, a2⟩ | ⟨a1, a2, a3⟩
      · have hs := Rd.shut_open a1
        rw [a2, Rd.way_shut hs]
        simp only [if_true]
        rw [Rd.expr_shut hs]
        simp only
        rw [Rd.want_shut hs]
        exact .inl ⟨a1, trivial⟩
      · rw [a1]
        simp only [Bool.false_eq_true, if_false]
        generalize hx : r.step.expr = x at *
        generalize hy : q.step.exprO = y at *
        obtain ⟨w1, w2, w3⟩ := way_sim a2
        have w4 := Rd.way_w x.2
        by_cases hw : y.2.2.wayF = 0
        · rw [if_pos hw] at w2
          rw [if_pos hw]
          have hs : x.2.way.2.isOpen = false := w2.isOpen
          rw [Rd.expr_shut hs]
          simp only [Rf.fail, Bool.false_eq_true, if_false]
          refine .inr ⟨trivial, w2.want (by decide +kernel), fun hk => ?_⟩
          have := (Rf.take_ok2 hk).1
          cases this
        · rw [if_neg hw] at w2
          rw [if_neg hw, w3 hw]
          simp only [if_true]
          rcases exprO_sim w2 (q := y.2.2.step) (w3 hw) with ⟨b1, b2⟩ | ⟨b1, b2, b3⟩
          · rw [b2]
            simp only [if_true]
            rw [Rd.want_shut (Rd.shut_open b1)]
            exact .inl ⟨b1, trivial⟩
          · rw [b1]
            simp only [Bool.false_eq_true, if_false]
            refine .inr ⟨trivial, b2.want (by decide +kernel), fun hk => ?_⟩
            obtain ⟨k1, k2⟩ := Rf.take_ok2 hk
            obtain ⟨c1, c2, c3, c4⟩ := a3 (w3 hw)
            obtain ⟨d1, d2, d3, d4⟩ := b3 k1
            have e1 : q.step.i = q.i + 1 := rfl
            have e2 : y.2.2.step.i = y.2.2.i + 1 := rfl
            have e3 : ∀ z : Rf, z.step.i = z.i + 1 := fun _ => rfl
            refine ⟨by rw [k2, e3]; omega, ?_⟩
            rw [Rd.want_w]
            rcases c4 with ⟨c4, c5⟩ | c4
            · exact .inl ⟨condOk_l (.inl c4), Rd.expr_w (by rw [w4, c5])⟩
            · rcases d4 with ⟨d4, d5⟩ | d4
              · exact .inl ⟨condOk_l (.inr d4), d5⟩
              · exact .inr ⟨by rw [c1, d1, w1], by rw [d4, w4, c4]; rfl⟩
end Go.PV
namespace Go.PV
open Go
def ItemSim {α : Type} (P : α → Bool) (g : Rd → α × Rd) (g' : Rf → α × Bool × Rf) : Prop := ∀ {r : Rd} {q : Rf}, Sim r q → q.ok = true →
    ((g r).2.over = true ∧ (g' q).2.1 = true) ∨
    ((g' q).2.1 = false ∧ Sim (g r).2 (g' q).2.2 ∧ ((g' q).2.2.ok = true → q.i < (g' q).2.2.i ∧
      ((P (g' q).1 = false ∧ ((g r).2.wrong = true ∨ P (g r).1 = false)) ∨ ((g' q).1 = (g r).1 ∧ (g r).2.wrong = r.wrong))))
theorem cond_item : ItemSim condOk Rd.condR Rf.condF := fun h ho => by
  rcases cond_sim h ho with h | ⟨h1, h2, h3⟩
  · exact .inl h
  · refine .inr ⟨h1, h2, fun hk => ?_⟩
    obtain ⟨c, d⟩ := h3 hk
    refine ⟨c, ?_⟩
    rcases d with d | d
    · exact .inl ⟨d.1, .inl d.2⟩
    · exact .inr d
theorem many_shut {α : Type} {g : Rd → α × Rd} (n : Nat) {r : Rd} (h : r.isOpen = false) : Rd.many g n r = ([], r) := by
  cases n with
  | zero => rfl
  | succ n => unfold Rd.many Rd.see; rw [h]; rfl
theorem many_w {α : Type} {g : Rd → α × Rd} (hg : ∀ r : Rd, r.wrong = true → (g r).2.wrong = true) : ∀ (n : Nat) {r : Rd}, r.wrong = true → (Rd.many g n r).2.wrong = true
  | 0, r, h => h
  | n + 1, r, h => by
    unfold Rd.many
    split
    · exact many_w hg n (hg _ h)
    · exact h
theorem loop_pre {α : Type} (g' : Rf → α × Bool × Rf) : ∀ (f : Nat) (q : Rf) (l : List α), ∃ t, (Rf.loopF g' f q l).1 = l ++ t
  | 0, q, l => ⟨[], by simp [Rf.loopF]⟩
  | f + 1, q, l => by
    rw [Rf.loopF]
    split
    · dsimp only
      split
      · exact ⟨[], by simp⟩
      · split
        · obtain ⟨t, ht⟩ := loop_pre g' f (g' q).2.2.step (l ++ [(g' q).1])
          exact ⟨(g' q).1 :: t, by rw [ht]; simp⟩
        · exact ⟨[(g' q).1], rfl⟩
    · exact ⟨[], by simp⟩
theorem loop_sim {α : Type} {P : α → Bool} {g : Rd → α × Rd} {g' : Rf → α × Bool × Rf} (hI : ItemSim P g g') (hg : ∀ r, (g r).2.l = r.l ∧ r.i ≤ (g r).2.i) (hw : ∀ r : Rd, r.wrong = true → (g r).2.wrong = true) :
    ∀ (f n : Nat) {r : Rd} {q : Rf} (l : List α), Sim r q → q.ok = true → q.l.length < f + q.i → q.l.length ≤ n + q.i → 1 ≤ f →
    ((Rd.many g n (g r).2).2.over = true ∧ (Rf.loopF g' f q l).2.1 = true) ∨
    ((Rf.loopF g' f q l).2.1 = false ∧ Sim (Rd.many g n (g r).2).2 (Rf.loopF g' f q l).2.2 ∧ ((Rf.loopF g' f q l).2.2.ok = true →
      (((Rf.loopF g' f q l).1.all P = false ∧ ((Rd.many g n (g r).2).2.wrong = true ∨ ((g r).1 :: (Rd.many g n (g r).2).1).all P = false)) ∨ ((Rf.loopF g' f q l).1 = l ++ (g r).1 :: (Rd.many g n (g r).2).1 ∧ (Rd.many g n (g r).2).2.wrong = r.wrong))))
  | 0, n, r, q, l, h, ho, hf, hn, h1 => absurd h1 (by decide)
  | f + 1, n, r, q, l, h, ho, hf, hn, h1 => by
    have hgl := hg r
    rw [Rf.loopF, if_pos ho]
    rcases hI h ho with ⟨a1, a2⟩ | ⟨a1, a2, a3⟩
    · dsimp only
      rw [many_shut n (Rd.shut_open a1), if_pos a2]
      exact .inl ⟨a1, rfl⟩
    · dsimp only
      rw [if_neg (by rw [a1]; simp)]
      have hs := a2.see (k := 5) (s := [44]) (by decide +kernel)
      generalize hx : g r = x at *
      generalize hy : g' q = y at *
      cases hc : (y.2.2.ok && y.2.2.is 5 [44]) with
      | false =>
        rw [hc] at hs
        have hm : Rd.many g n x.2 = ([], x.2) := by
          cases n with
          | zero => rfl
          | succ n => unfold Rd.many; rw [hs]; rfl
        rw [hm]
        simp only [Bool.false_eq_true, if_false]
        refine .inr ⟨trivial, a2, fun hk => ?_⟩
        obtain ⟨b1, b2⟩ := a3 hk
        rcases b2 with ⟨b2, b3⟩ | ⟨b2, b3⟩
        · exact .inl ⟨by simp [b2], b3.imp id fun e => by simp [e]⟩
        · exact .inr ⟨by rw [b2], b3⟩
      | true =>
        rw [hc] at hs
        simp only [Bool.and_eq_true] at hc
        obtain ⟨b1, b2⟩ := a3 hc.1
        have hlt := Rf.is_up hc.2
        have el : y.2.2.l = q.l := by rw [← a2.l, hgl.1, h.l]
        rw [el] at hlt
        obtain ⟨n, rfl⟩ : ∃ k, n = k + 1 := ⟨n - 1, by omega⟩
        have hm : Rd.many g (n + 1) x.2 = ((g x.2.step).1 :: (Rd.many g n (g x.2.step).2).1, (Rd.many g n (g x.2.step).2).2) := by
          rw [Rd.many, hs]; rfl
        rw [hm]
        simp only [if_true]
        have e1 : y.2.2.step.i = y.2.2.i + 1 := rfl
        have e2 : y.2.2.step.l = q.l := el
        have ih := loop_sim hI hg hw f n (r := x.2.step) (q := y.2.2.step) (l ++ [y.1]) a2.step hc.1 (by rw [e2, e1]; omega) (by rw [e2, e1]; omega) (by omega)
        rcases ih with ih | ⟨c1, c2, c3⟩
        · exact .inl ih
        · refine .inr ⟨c1, c2, fun hk => ?_⟩
          have c3 := c3 hk
          have hww : x.2.step.wrong = x.2.wrong := rfl
          rcases b2 with ⟨b2, b3⟩ | ⟨b2, b3⟩
          · obtain ⟨t, ht⟩ := loop_pre g' f y.2.2.step (l ++ [y.1])
            exact .inl ⟨by rw [ht]; simp [b2], b3.imp (fun e => many_w hw n (hw _ e)) fun e => by simp [e]⟩
          · rcases c3 with c3 | ⟨c3, c4⟩
            · exact .inl ⟨c3.1, c3.2.imp id fun e => by rw [List.all_cons, e, Bool.and_false]⟩
            · exact .inr ⟨by rw [c3, b2]; simp, by rw [c4, hww, b3]⟩
theorem args_eq : ∀ (f : Nat) (q : Rf) (l : List (List Stp)), q.ok = true → Rf.argsF f q l = Rf.loopF Rf.exprO f q.step l
  | 0, q, l, _ => rfl
  | f + 1, q, l, h => by
    rw [Rf.argsF, Rf.loopF, if_pos (show q.step.ok = true from h)]
    dsimp only
    split
    · rfl
    · split
      · rename_i hc
        simp only [Bool.and_eq_true] at hc
        exact args_eq f _ _ hc.1
      · rfl
theorem expr_item : ItemSim exprOk Rd.expr Rf.exprO := fun h ho => by
  rcases exprO_sim h ho with h | ⟨h1, h2, h3⟩
  · exact .inl h
  · refine .inr ⟨h1, h2, fun hk => ?_⟩
    obtain ⟨a, b, c, d⟩ := h3 hk
    refine ⟨c, ?_⟩
    rcases d with d | d
    · exact .inl ⟨d.1, .inl d.2⟩
    · exact .inr ⟨a, d⟩
end Go.PV
namespace Go.PV
open Go
theorem num_ok {q : Rf} (h : q.num.2.ok = true) : ∃ t, q.tok = some t ∧ t.k = 3 ∧ q.num = ((refNumS t.t).getD 0, q.step) := by
  unfold Rf.num at *
  cases ht : q.tok with
  | none => rw [ht] at h; cases h
  | some t =>
    rw [ht] at h
    dsimp only at h ⊢
    by_cases hc : q.ok = true ∧ t.k = 3 
    · exact ⟨t, rfl, hc.2, by rw [if_pos hc]⟩
    · rw [if_neg hc] at h; cases h
theorem drop_sim {r : Rd} {q : Rf} (h : Sim r q) (ho : q.ok = true) :
    Sim (if r.num.2.isOpen && decide (r.num.1 < 0) then r.num.2.back else r.num.2) (if q.negF then q.fail else q).num.2 ∧
    ((if q.negF then q.fail else q).num.2.ok = true → (if q.negF then q.fail else q).num.1 = r.num.1 ∧ q.i < (if q.negF then q.fail else q).num.2.i) := by
  obtain ⟨h1, h2⟩ := h.num
  cases hn : q.negF with
  | true =>
    rw [if_pos rfl]
    unfold Rf.negF at hn
    cases ht : q.tok with
    | none => rw [ht] at hn; cases hn
    | some t =>
      rw [ht] at hn
      simp only [Bool.and_eq_true, decide_eq_true_eq] at hn
      have e : q.num = ((refNumS t.t).getD 0, q.step) := by unfold Rf.num; rw [ht]; dsimp only; rw [if_pos ⟨ho, hn.1⟩]
      have e2 : q.fail.num = (0, q.fail) := by
        have : q.fail.tok = q.tok := rfl
        unfold Rf.num; rw [this, ht]; dsimp only; rw [if_neg (by simp [Rf.fail])]; rfl
      rw [e] at h1 h2
      rw [e2, h2.isOpen, h1]
      have : ((q.step.ok && decide ((refNumS t.t).getD 0 < 0)) = true) := by simp [hn.2]; exact ho
      rw [if_pos this]
      refine ⟨⟨h2.l, ?_, h2.over, rfl⟩, fun hk => by cases hk⟩
      show r.num.2.i - 1 = q.i
      rw [h2.i]
      rfl
  | false =>
    simp only [Bool.false_eq_true, if_false]
    have : (r.num.2.isOpen && decide (r.num.1 < 0)) = false := by
      cases hk : q.num.2.ok with
      | false => rw [h2.isOpen, hk]; rfl
      | true =>
        obtain ⟨t, t1, t2, t3⟩ := num_ok hk
        unfold Rf.negF at hn
        rw [t1] at hn
        simp [t2] at hn
        rw [h1, t3]
        simp [hn]
    rw [this]
    refine ⟨by simpa using h2, fun hk => ⟨h1.symm, ?_⟩⟩
    obtain ⟨t, t1, t2, t3⟩ := num_ok hk
    rw [t3]
    exact Nat.lt_succ_self _
end Go.PV
namespace Go.PV
open Go
theorem actOk_n {m : Int} {n : Bs} {a : List (List Stp)} (h : a.all exprOk = false ∨ 5 < a.length) : actOk m ⟨1, n, a, 0⟩ = false := by
  unfold actOk
  rw [if_pos rfl]
  rcases h with h | h
  · simp [h]
  · rw [decide_eq_false (by omega : ¬ a.length ≤ 5)]; simp
theorem act_item (m : Int) : ItemSim (actOk m) Rd.actR Rf.actF := by
  intro r q h ho
  unfold Rd.actR Rf.actF
  rw [h.see (k := 1) (s := [100, 114, 111, 112]) (by decide +kernel), ho, Bool.true_and]
  cases hd : q.is 1 [100, 114, 111, 112] with
  | true =>
    simp only [if_true]
    obtain ⟨h1, h2⟩ := drop_sim h.step (q := q.step) ho
    refine .inr ⟨trivial, h1, fun hk => ?_⟩
    obtain ⟨h3, h4⟩ := h2 hk
    refine ⟨Nat.lt_of_succ_lt h4, .inr ⟨by rw [h3], ?_⟩⟩
    have hb : ∀ x : Rd, x.back.wrong = x.wrong := fun _ => rfl
    split
    · rw [hb, Rd.num_w]; rfl
    · rw [Rd.num_w]; rfl
  | false =>
    simp only [Bool.false_eq_true, if_false]
    obtain ⟨e1, e2⟩ := (h.want (k := 5) (s := [43]) (by decide +kernel)).name
    have ew : (r.want 5 [43]).name.2.wrong = r.wrong := by rw [Rd.name_w, Rd.want_w]
    have eu := Rf.name_up (q := q.take 5 [43])
    have eg := Rf.take_l q 5 [43]
    have el := Rf.name_l (q.take 5 [43])
    rw [e2.see (k := 5) (s := [40]) (by decide +kernel), e1]
    generalize hx : (r.want 5 [43]).name = x at *
    generalize hy : (q.take 5 [43]).name = y at *
    cases hc : (y.2.ok && y.2.is 5 [40]) with
    | false =>
      simp only [Bool.false_eq_true, if_false]
      refine .inr ⟨trivial, e2, fun hk => ⟨by have := eu hk; omega, .inr ⟨trivial, ew⟩⟩⟩
    | true =>
      simp only [if_true]
      simp only [Bool.and_eq_true] at hc
      rw [args_eq _ _ _ hc.1]
      have hyi := eu hc.1
      have hyl : y.2.l = q.l := by rw [el.1, eg.1]
      have e3 : y.2.step.l = q.l := hyl
      have e4 : y.2.step.i = y.2.i + 1 := rfl
      have hL := loop_sim expr_item Rd.expr_l (fun r h => Rd.expr_w h) (q.l.length + 1) r.l.length [] e2.step hc.1 (by rw [e3]; omega) (by rw [e3, h.l]; omega) (by omega)
      rcases hL with ⟨a1, a2⟩ | ⟨a1, a2, a3⟩
      · rw [a2]
        simp only [if_true]
        rw [Rd.want_shut (Rd.shut_open a1)]
        exact .inl ⟨a1, trivial⟩
      · rw [a1]
        simp only [Bool.false_eq_true, if_false]
        refine .inr ⟨trivial, a2.want (by decide +kernel), fun hk => ?_⟩
        obtain ⟨k1, k2⟩ := Rf.take_ok2 hk
        have b3 := a3 k1
        have m1 := (Rd.many_l Rd.expr_l r.l.length x.2.step.expr.2).2
        have m2 := (Rd.expr_l x.2.step).2
        have m3 : x.2.step.i = x.2.i + 1 := rfl
        have m4 := a2.i
        have m5 := e2.i
        have m6 : ∀ z : Rf, z.step.i = z.i + 1 := fun _ => rfl
        have m7 : x.2.step.wrong = x.2.wrong := rfl
        generalize Rf.loopF Rf.exprO (q.l.length + 1) y.2.step [] = L at *
        generalize Rd.many Rd.expr r.l.length x.2.step.expr.2 = M at *
        refine ⟨by rw [k2, m6]; omega, ?_⟩
        rw [Rd.want_w]
        rcases b3 with ⟨b3, b4⟩ | ⟨b3, b4⟩
        · refine .inl ⟨actOk_n (.inl b3), b4.imp id fun e => ?_⟩
          by_cases hl : 5 < (x.2.step.expr.1 :: M.1).length
          · exact actOk_n (.inr (by rw [List.length_take]; omega))
          · rw [List.take_of_length_le (by omega)]
            exact actOk_n (.inl e)
        · by_cases hl : 5 < (x.2.step.expr.1 :: M.1).length
          · refine .inl ⟨actOk_n (.inr (by rw [b3, List.nil_append]; exact hl)), .inr (actOk_n (.inr (by rw [List.length_take]; omega)))⟩
          · refine .inr ⟨by rw [b3, List.nil_append, List.take_of_length_le (by omega)], by rw [b4, m7, ew]⟩
end Go.PV
namespace Go.PV
open Go
theorem Rd.name_shut {r : Rd} (h : r.isOpen = false) : r.name.2 = r := by unfold Rd.name; rw [h]; rfl
theorem Rd.num_shut {r : Rd} (h : r.isOpen = false) : r.num.2 = r := by unfold Rd.num; rw [h]; rfl
theorem Rd.see_shut {r : Rd} (h : r.isOpen = false) (k : Int) (t : Bs) : r.see k t = false := by unfold Rd.see; rw [h]; rfl
theorem Rd.atom_shut {r : Rd} (h : r.isOpen = false) : r.atom.2 = r := by
  unfold Rd.atom
  dsimp only
  rw [Rd.name_shut h, Rd.see_shut h]
  rfl
theorem Rd.condR_shut {r : Rd} (h : r.isOpen = false) : r.condR.2 = r := by
  unfold Rd.condR
  rw [Rd.see_shut h, Rd.see_shut h]
  exact Rd.atom_shut h
theorem Rd.actR_shut {r : Rd} (h : r.isOpen = false) : r.actR.2 = r := by
  unfold Rd.actR
  rw [Rd.see_shut h]
  dsimp only
  rw [Rd.want_shut h, Rd.name_shut h, Rd.see_shut h]
  rfl
theorem Rf.loop_shut {α : Type} (g : Rf → α × Bool × Rf) (f : Nat) {q : Rf} (h : q.ok = false) (l : List α) : Rf.loopF g (f + 1) q l = (l, false, q) := by
  rw [Rf.loopF, if_neg (by rw [h]; simp)]
end Go.PV
namespace Go.PV
open Go
theorem condR_w (r : Rd) (h : r.wrong = true) : r.condR.2.wrong = true := by
  unfold Rd.condR
  split
  · dsimp only
    rw [Rd.want_w]
    exact Rd.expr_w (by rw [Rd.way_w]; exact Rd.expr_w h)
  · split
    · exact Rd.atom_w h
    · exact Rd.atom_w h
theorem actR_w (r : Rd) (h : r.wrong = true) : r.actR.2.wrong = true := by
  unfold Rd.actR
  split
  · dsimp only
    have hb : ∀ x : Rd, x.back.wrong = x.wrong := fun _ => rfl
    split
    · rw [hb, Rd.num_w]; exact h
    · rw [Rd.num_w]; exact h
  · dsimp only
    split
    · dsimp only
      rw [Rd.want_w]
      refine many_w (fun r h => Rd.expr_w h) _ (Rd.expr_w ?_)
      show (Rd.name _).2.wrong = true
      rw [Rd.name_w, Rd.want_w, h]
    · dsimp only
      rw [Rd.name_w, Rd.want_w, h]
end Go.PV
namespace Go.PV
open Go
/-- the lists of items, from where both stand alike, open or not -/
theorem items_sim {α : Type} {P : α → Bool} {g : Rd → α × Rd} {g' : Rf → α × Bool × Rf} (hI : ItemSim P g g') (hg : ∀ r, (g r).2.l = r.l ∧ r.i ≤ (g r).2.i) (hw : ∀ r : Rd, r.wrong = true → (g r).2.wrong = true) (hs : ∀ {r : Rd}, r.isOpen = false → (g r).2 = r)
    {r : Rd} {q : Rf} (h : Sim r q) (n f : Nat) (hn : q.l.length ≤ n + q.i) (hf : q.l.length ≤ f + q.i) :
    ((Rd.many g n (g r).2).2.over = true ∧ (Rf.loopF g' (f + 1) q []).2.1 = true) ∨
    ((Rf.loopF g' (f + 1) q []).2.1 = false ∧ Sim (Rd.many g n (g r).2).2 (Rf.loopF g' (f + 1) q []).2.2 ∧ ((Rf.loopF g' (f + 1) q []).2.2.ok = true →
      q.ok = true ∧ (((Rf.loopF g' (f + 1) q []).1.all P = false ∧ ((Rd.many g n (g r).2).2.wrong = true ∨ ((g r).1 :: (Rd.many g n (g r).2).1).all P = false)) ∨ ((Rf.loopF g' (f + 1) q []).1 = (g r).1 :: (Rd.many g n (g r).2).1 ∧ (Rd.many g n (g r).2).2.wrong = r.wrong)))) := by
  cases ho : q.ok with
  | false =>
    rw [hs (by rw [h.isOpen, ho]), many_shut n (by rw [h.isOpen, ho]), Rf.loop_shut g' f ho]
    exact .inr ⟨rfl, h, fun hk => by rw [ho] at hk; cases hk⟩
  | true =>
    rcases loop_sim hI hg hw (f + 1) n [] h ho (by omega) hn (by omega) with a | ⟨a, b, c⟩
    · exact .inl a
    · exact .inr ⟨a, b, fun hk => ⟨rfl, c hk⟩⟩
end Go.PV
namespace Go.PV
open Go
theorem ruleOk_lc {n : Bs} {p : Int} {c : List Cnd} {a : List Act} (h : 6 < c.length) : ruleOk ⟨n, p, c, a⟩ = false := by
  unfold ruleOk
  rw [show decide (1 ≤ c.length ∧ c.length ≤ 6) = false from decide_eq_false (by omega)]
  simp
theorem ruleOk_la {n : Bs} {p : Int} {c : List Cnd} {a : List Act} (h : 6 < a.length) : ruleOk ⟨n, p, c, a⟩ = false := by
  unfold ruleOk
  rw [show decide (1 ≤ a.length ∧ a.length ≤ 6) = false from decide_eq_false (by omega)]
  simp
theorem ruleOk_c {n : Bs} {p : Int} {c : List Cnd} {a : List Act} (h : c.all condOk = false) : ruleOk ⟨n, p, c, a⟩ = false := by
  unfold ruleOk
  rw [show (⟨n, p, c, a⟩ : Rul).c = c from rfl, h]
  simp
theorem ruleOk_a {n : Bs} {p : Int} {c : List Cnd} {a : List Act} (h : a.all (actOk (hasN c)) = false) : ruleOk ⟨n, p, c, a⟩ = false := by
  unfold ruleOk
  rw [show (⟨n, p, c, a⟩ : Rul).a = a from rfl, show (⟨n, p, c, a⟩ : Rul).c = c from rfl, h]
  simp
theorem ruleOk_tc {n : Bs} {p : Int} {c : List Cnd} {a : List Act} (h : c.all condOk = false) : ruleOk ⟨n, p, c.take 7, a⟩ = false := by
  by_cases hl : 6 < c.length
  · exact ruleOk_lc (by rw [List.length_take]; omega)
  · rw [List.take_of_length_le (by omega)]; exact ruleOk_c h
theorem ruleOk_ta {n : Bs} {p : Int} {c : List Cnd} {a : List Act} (h : a.all (actOk (hasN c)) = false) : ruleOk ⟨n, p, c.take 7, a.take 7⟩ = false := by
  by_cases hl : 6 < c.length
  · exact ruleOk_lc (by rw [List.length_take]; omega)
  · rw [List.take_of_length_le (by omega : c.length ≤ 7)]
    by_cases hk : 6 < a.length
    · exact ruleOk_la (by rw [List.length_take]; omega)
    · rw [List.take_of_length_le (by omega)]; exact ruleOk_a h
theorem rule_sim {r : Rd} {q : Rf} (h : Sim r q) :
    (r.rule.2.over = true ∧ q.ruleF.2.1 = true) ∨
    (q.ruleF.2.1 = false ∧ Sim r.rule.2 q.ruleF.2.2 ∧ (q.ruleF.2.2.ok = true →
      ((ruleOk q.ruleF.1 = false ∧ (r.rule.2.wrong = true ∨ ruleOk r.rule.1 = false)) ∨ (q.ruleF.1 = r.rule.1 ∧ r.rule.2.wrong = r.wrong)))) := by
  unfold Rd.rule Rf.ruleF Rf.condsF Rf.actsF
  obtain ⟨a1, a2⟩ := (h.want (k := 1) (s := [114, 117, 108, 101]) (by decide +kernel)).name
  obtain ⟨b1, b2⟩ := a2.num
  have c0 := b2.want (k := 5) (s := [58]) (by decide +kernel)
  have hl : ((q.take 1 [114, 117, 108, 101]).name.2.num.2.take 5 [58]).l = q.l := by
    rw [(Rf.take_l _ _ _).1, (Rf.num_l _).1, (Rf.name_l _).1, (Rf.take_l _ _ _).1]
  have hw0 : ((r.want 1 [114, 117, 108, 101]).name.2.num.2.want 5 [58]).wrong = r.wrong := by
    rw [Rd.want_w, Rd.num_w, Rd.name_w, Rd.want_w]
  have hc := items_sim cond_item Rd.condR_l condR_w (fun h => Rd.condR_shut h) c0 r.l.length q.l.length (by rw [hl, h.l]; omega) (by rw [hl]; omega)
  dsimp only
  have hl1 : ((r.want 1 [114, 117, 108, 101]).name.2.num.2.want 5 [58]).l = r.l := by rw [c0.l, hl, h.l]
  have hl2 : (Rd.many Rd.condR r.l.length ((r.want 1 [114, 117, 108, 101]).name.2.num.2.want 5 [58]).condR.2).2.l = r.l := by
    rw [(Rd.many_l Rd.condR_l _ _).1, (Rd.condR_l _).1, hl1]
  rw [a1, b1]
  generalize (r.want 1 [114, 117, 108, 101]).name.2.num.2.want 5 [58] = R0 at *
  generalize (q.take 1 [114, 117, 108, 101]).name.2.num.2.take 5 [58] = Q0 at *
  generalize Rd.many Rd.condR r.l.length R0.condR.2 = M at *
  generalize R0.condR.1 = M0 at *
  generalize Rf.loopF Rf.condF (q.l.length + 1) Q0 [] = N at *
  generalize (q.take 1 [114, 117, 108, 101]).name.2.num.1 = p at *
  generalize (q.take 1 [114, 117, 108, 101]).name.1 = nm at *
  rcases hc with ⟨d1, d2⟩ | ⟨d1, d2, d3⟩
  · rw [d2]
    simp only [if_true]
    have hs := Rd.shut_open d1
    rw [Rd.want_shut hs, Rd.actR_shut hs, many_shut _ hs]
    dsimp only
    rw [Rd.want_shut hs]
    exact .inl ⟨d1, trivial⟩
  · rw [d1]
    simp only [Bool.false_eq_true, if_false]
    have e0 := d2.want (k := 5) (s := [45, 62]) (by decide +kernel)
    have hl3 : (N.2.2.take 5 [45, 62]).l = q.l := by rw [← e0.l, Rd.want_l _ _ _ |>.1, hl2, h.l]
    have hA := items_sim (act_item (hasN N.1)) Rd.actR_l actR_w (fun h => Rd.actR_shut h) e0 r.l.length q.l.length (by rw [hl3, h.l]; omega) (by rw [hl3]; omega)
    have hw1 : (M.2.want 5 [45, 62]).wrong = M.2.wrong := Rd.want_w _ _ _
    have hok : (N.2.2.take 5 [45, 62]).ok = true → N.2.2.ok = true := fun hk => (Rf.take_ok2 hk).1
    have hww : M.2.wrong = true → (Rd.many Rd.actR r.l.length (M.2.want 5 [45, 62]).actR.2).2.wrong = true := fun e => many_w actR_w _ (actR_w _ (by rw [hw1, e]))
    generalize M.2.want 5 [45, 62] = R1 at *
    generalize N.2.2.take 5 [45, 62] = Q1 at *
    generalize Rd.many Rd.actR r.l.length R1.actR.2 = A at *
    generalize R1.actR.1 = A0 at *
    generalize Rf.loopF Rf.actF (q.l.length + 1) Q1 [] = B at *
    rcases hA with ⟨f1, f2⟩ | ⟨f1, f2, f3⟩
    · rw [f2]
      simp only [if_true]
      rw [Rd.want_shut (Rd.shut_open f1)]
      exact .inl ⟨f1, trivial⟩
    · rw [f1]
      simp only [Bool.false_eq_true, if_false]
      refine .inr ⟨trivial, f2.want (by decide +kernel), fun hk => ?_⟩
      obtain ⟨g1, g2⟩ := f3 (Rf.take_ok2 hk).1
      obtain ⟨_, k2⟩ := d3 (hok g1)
      rw [Rd.want_w]
      rcases k2 with ⟨k2, k3⟩ | ⟨k2, k3⟩
      · refine .inl ⟨ruleOk_c k2, ?_⟩
        rcases k3 with k3 | k3
        · exact .inl (hww k3)
        · exact .inr (ruleOk_tc k3)
      · rw [k2] at g2 ⊢
        rcases g2 with ⟨g2, g3⟩ | ⟨g2, g3⟩
        · refine .inl ⟨ruleOk_a g2, ?_⟩
          rcases g3 with g3 | g3
          · exact .inl g3
          · exact .inr (ruleOk_ta g3)
        · rw [g2]
          by_cases hc : 6 < (M0 :: M.1).length
          · exact .inl ⟨ruleOk_lc hc, .inr (ruleOk_lc (by rw [List.length_take]; omega))⟩
          · by_cases ha : 6 < (A0 :: A.1).length
            · exact .inl ⟨ruleOk_la ha, .inr (ruleOk_la (by rw [List.length_take]; omega))⟩
            · refine .inr ⟨?_, by rw [g3, hw1, k3, hw0]⟩
              rw [List.take_of_length_le (by omega : (M0 :: M.1).length ≤ 7), List.take_of_length_le (by omega : (A0 :: A.1).length ≤ 7)]
end Go.PV
namespace Go.PV
open Go
set_option linter.unusedSimpArgs false
/-! formulas -/
structure Nod where
  k : Int
  a : Atm
  x : Int
  y : Int
abbrev Nod.c (o : Nod) : List V := [.int .i64 o.k, .str o.a.n, .sl 4 (trmV o.a.a), .int .i64 o.x, .int .i64 o.y]
abbrev nodV (l : List Nod) : List (List V) := l.map Nod.c
instance : DecidableEq Nod := fun a b => decidable_of_iff (a.k = b.k ∧ a.a = b.a ∧ a.x = b.x ∧ a.y = b.y) (by cases a; cases b; simp)
def armsN (k : Int) : Int := if k = 1 then 0 else if k = 2 ∨ k = 5 ∨ k = 6 ∨ k = 7 then 1 else if k = 3 ∨ k = 4 ∨ k = 8 then 2 else -1
/-- a node behind others: where its own begin, how deep it is -/
def nodS (acc : List (Nat × Nat)) (o : Nod) : Option (Nat × Nat) :=
  if armsN o.k = 0 then (if o.x = 0 ∧ o.y = 0 ∧ atomOk o.a = true then some (acc.length, 1) else none)
  else if armsN o.k = 1 then match acc.getLast? with
    | some p => if o.x = (acc.length : Int) - 1 ∧ o.y = 0 ∧ o.a = zeroA then some (p.1, p.2 + 1) else none
    | none => none
  else if armsN o.k = 2 then match acc.getLast? with
    | some p => if o.y = (acc.length : Int) - 1 ∧ 1 ≤ p.1 ∧ o.x = (p.1 : Int) - 1 ∧ o.a = zeroA then
        match acc[p.1 - 1]? with
        | some q => some (q.1, max q.2 p.2 + 1)
        | none => none
      else none
    | none => none
  else none
def fromsGo : List (Nat × Nat) → List Nod → Option (List (Nat × Nat))
  | acc, [] => some acc
  | acc, o :: l => match nodS acc o with
    | some p => fromsGo (acc ++ [p]) l
    | none => none
def fromsS (l : List Nod) : Option (List (Nat × Nat)) := fromsGo [] l
def fmlOk (l : List Nod) : Bool := decide (1 ≤ l.length ∧ l.length ≤ 40) && match fromsS l with
  | some acc => match acc.getLast? with
    | some p => decide (p.1 = 0 ∧ p.2 ≤ 12)
    | none => false
  | none => false
/-- a formula as a tree -/
inductive FT where
  | at_ (a : Atm)
  | one (k : Int) (t : FT)
  | two (k : Int) (s t : FT)
namespace FT
def size : FT → Nat
  | .at_ _ => 1
  | .one _ t => t.size + 1
  | .two _ s t => s.size + t.size + 1
def deep : FT → Nat
  | .at_ _ => 1
  | .one _ t => t.deep + 1
  | .two _ s t => max s.deep t.deep + 1
def ok : FT → Bool
  | .at_ a => atomOk a
  | .one k t => decide (armsN k = 1) && t.ok
  | .two k s t => decide (armsN k = 2) && (s.ok && t.ok)
def nodes : FT → Nat → List Nod
  | .at_ a, _ => [⟨1, a, 0, 0⟩]
  | .one k t, n => t.nodes n ++ [⟨k, zeroA, (n + t.size : Nat) - 1, 0⟩]
  | .two k s t, n => s.nodes n ++ t.nodes (n + s.size) ++ [⟨k, zeroA, (n + s.size : Nat) - 1, (n + s.size + t.size : Nat) - 1⟩]
def acc : FT → Nat → List (Nat × Nat)
  | .at_ _, n => [(n, 1)]
  | .one k t, n => t.acc n ++ [(n, (one k t).deep)]
  | .two k s t, n => s.acc n ++ t.acc (n + s.size) ++ [(n, (two k s t).deep)]
theorem size_pos : ∀ T : FT, 1 ≤ T.size
  | .at_ _ => Nat.le_refl _
  | .one _ _ => Nat.le_add_left _ _
  | .two _ _ _ => Nat.le_add_left _ _
theorem nodes_len : ∀ (T : FT) (n : Nat), (T.nodes n).length = T.size
  | .at_ _, _ => rfl
  | .one _ t, n => by simp [nodes, size, nodes_len t]
  | .two _ s t, n => by simp [nodes, size, nodes_len s, nodes_len t]; omega
theorem acc_len : ∀ (T : FT) (n : Nat), (T.acc n).length = T.size
  | .at_ _, _ => rfl
  | .one _ t, n => by simp [acc, size, acc_len t]
  | .two _ s t, n => by simp [acc, size, acc_len s, acc_len t]; omega
theorem acc_last (T : FT) (n : Nat) : ∃ l, T.acc n = l ++ [(n, T.deep)] := by
  cases T with
  | at_ a => exact ⟨[], rfl⟩
  | one k t => exact ⟨_, rfl⟩
  | two k s t => exact ⟨_, rfl⟩
theorem acc_deep : ∀ (T : FT) (n : Nat), ∀ p ∈ T.acc n, p.2 ≤ T.deep ∧ n ≤ p.1
  | .at_ _, n, p, h => by simp [acc] at h; subst h; exact ⟨Nat.le_refl _, Nat.le_refl _⟩
  | .one k t, n, p, h => by
    rcases List.mem_append.1 h with h | h
    · have := acc_deep t n p h; simp only [deep]; omega
    · simp at h; subst h; exact ⟨Nat.le_refl _, Nat.le_refl _⟩
  | .two k s t, n, p, h => by
    rcases List.mem_append.1 h with h | h
    · rcases List.mem_append.1 h with h | h
      · have := acc_deep s n p h; simp only [deep]; omega
      · have := acc_deep t _ p h; simp only [deep]; omega
    · simp at h; subst h; exact ⟨Nat.le_refl _, Nat.le_refl _⟩
end FT
theorem fromsGo_app : ∀ (l m : List Nod) (acc : List (Nat × Nat)), fromsGo acc (l ++ m) = (fromsGo acc l).bind fun a => fromsGo a m
  | [], m, acc => rfl
  | o :: l, m, acc => by
    simp only [List.cons_append, fromsGo]
    cases nodS acc o with
    | none => rfl
    | some p => exact fromsGo_app l m _
theorem arms_cases (k : Int) : armsN k = 0 ∧ k = 1 ∨ armsN k = 1 ∧ (k = 2 ∨ k = 5 ∨ k = 6 ∨ k = 7) ∨ armsN k = 2 ∧ (k = 3 ∨ k = 4 ∨ k = 8) ∨ armsN k = -1 ∧ (k < 1 ∨ 8 < k) := by
  unfold armsN; split
  · exact .inl ⟨rfl, by assumption⟩
  · split
    · exact .inr (.inl ⟨rfl, by assumption⟩)
    · split
      · exact .inr (.inr (.inl ⟨rfl, by assumption⟩))
      · exact .inr (.inr (.inr ⟨rfl, by omega⟩))
theorem FT.froms : ∀ {T : FT}, T.ok = true → ∀ (acc : List (Nat × Nat)), fromsGo acc (T.nodes acc.length) = some (acc ++ T.acc acc.length)
  | .at_ a, h, acc => by
    simp only [nodes, fromsGo, nodS]
    rw [if_pos (by decide), if_pos ⟨trivial, trivial, h⟩]
    rfl
  | .one k t, h, acc => by
    simp only [ok, Bool.and_eq_true, decide_eq_true_eq] at h
    obtain ⟨l, hl⟩ := t.acc_last acc.length
    simp only [nodes, fromsGo_app, FT.froms h.2, Option.bind_some, fromsGo, nodS]
    have e : (acc ++ t.acc acc.length).getLast? = some (acc.length, t.deep) := by rw [hl, ← List.append_assoc, List.getLast?_concat]
    rw [if_neg (by omega), if_pos h.1, e]
    dsimp only
    rw [if_pos ⟨by rw [List.length_append, acc_len], trivial, trivial⟩]
    simp only [FT.acc, FT.deep, List.append_assoc]
  | .two k s t, h, acc => by
    simp only [ok, Bool.and_eq_true, decide_eq_true_eq] at h
    obtain ⟨h1, h2, h3⟩ := h
    have el : (acc ++ s.acc acc.length).length = acc.length + s.size := by rw [List.length_append, acc_len]
    have ht := FT.froms h3 (acc ++ s.acc acc.length)
    rw [el] at ht
    obtain ⟨l, hl⟩ := t.acc_last (acc.length + s.size)
    obtain ⟨m, hm⟩ := s.acc_last acc.length
    simp only [nodes, fromsGo_app, FT.froms h2, Option.bind_some, ht, fromsGo, nodS]
    have e : (acc ++ s.acc acc.length ++ t.acc (acc.length + s.size)).getLast? = some (acc.length + s.size, t.deep) := by rw [hl, ← List.append_assoc, List.getLast?_concat]
    have hsp := s.size_pos
    have hms : m.length + 1 = s.size := by rw [← acc_len s acc.length, hm]; simp
    have e2 : (acc ++ s.acc acc.length ++ t.acc (acc.length + s.size))[acc.length + s.size - 1]? = some (acc.length, s.deep) := by
      rw [List.getElem?_append_left (by rw [el]; omega), hm, ← List.append_assoc]
      rw [show acc.length + s.size - 1 = (acc ++ m).length by rw [List.length_append]; omega]
      exact List.getElem?_concat_length
    rw [if_neg (by omega), if_neg (by omega), if_pos h1, e]
    dsimp only
    rw [if_pos ⟨by rw [List.length_append, el, acc_len], by omega, by simp, trivial⟩, e2]
    simp only [FT.acc, FT.deep, List.append_assoc]
/-- forests -/
def fNodes : Nat → List FT → List Nod
  | _, [] => []
  | n, T :: r => T.nodes n ++ fNodes (n + T.size) r
def fAcc : Nat → List FT → List (Nat × Nat)
  | _, [] => []
  | n, T :: r => T.acc n ++ fAcc (n + T.size) r
def fSize : List FT → Nat
  | [] => 0
  | T :: r => T.size + fSize r
theorem fNodes_app : ∀ (F H : List FT) (n : Nat), fNodes n (F ++ H) = fNodes n F ++ fNodes (n + fSize F) H
  | [], H, n => by simp [fNodes, fSize]
  | T :: F, H, n => by simp only [List.cons_append, fNodes, fNodes_app F H, fSize, List.append_assoc, Nat.add_assoc]
theorem fAcc_app : ∀ (F H : List FT) (n : Nat), fAcc n (F ++ H) = fAcc n F ++ fAcc (n + fSize F) H
  | [], H, n => by simp [fAcc, fSize]
  | T :: F, H, n => by simp only [List.cons_append, fAcc, fAcc_app F H, fSize, List.append_assoc, Nat.add_assoc]
theorem fAcc_len : ∀ (F : List FT) (n : Nat), (fAcc n F).length = fSize F
  | [], n => rfl
  | T :: F, n => by simp only [fAcc, List.length_append, FT.acc_len, fAcc_len F, fSize]
theorem fNodes_len : ∀ (F : List FT) (n : Nat), (fNodes n F).length = fSize F
  | [], n => rfl
  | T :: F, n => by simp only [fNodes, List.length_append, FT.nodes_len, fNodes_len F, fSize]
theorem fSize_app (F H : List FT) : fSize (F ++ H) = fSize F + fSize H := by
  rw [← fNodes_len (F ++ H) 0, fNodes_app, List.length_append, fNodes_len, fNodes_len]
theorem last_cases {α : Type} (l : List α) : l = [] ∨ ∃ m x, l = m ++ [x] := by
  rcases List.eq_nil_or_concat l with h | ⟨m, x, h⟩
  · exact .inl h
  · exact .inr ⟨m, x, by rw [h]; simp⟩
theorem nod_forest {F : List FT} (hF : ∀ T ∈ F, T.ok = true) {o : Nod} {p : Nat × Nat} (h : nodS (fAcc 0 F) o = some p) :
    ∃ H : List FT, (∀ T ∈ H, T.ok = true) ∧ fNodes 0 H = fNodes 0 F ++ [o] ∧ fAcc 0 H = fAcc 0 F ++ [p] := by
  unfold nodS at h
  have hlast : ∀ {F' : List FT} {T : FT}, (fAcc 0 (F' ++ [T])).getLast? = some (fSize F', T.deep) := by
    intro F' T
    obtain ⟨l, hl⟩ := T.acc_last (0 + fSize F')
    rw [fAcc_app, show fAcc (0 + fSize F') [T] = T.acc (0 + fSize F') by simp [fAcc], hl, ← List.append_assoc, List.getLast?_concat, Nat.zero_add]
  obtain ⟨k, a, x, y⟩ := o
  rcases arms_cases k with ⟨ha, hk⟩ | ⟨ha, hk⟩ | ⟨ha, hk⟩ | ⟨ha, hk⟩
  · rw [if_pos ha] at h
    split at h
    · rename_i hc
      obtain ⟨rfl, rfl, hc⟩ := hc
      cases h
      subst hk
      refine ⟨F ++ [.at_ a], fun T hT => ?_, ?_, ?_⟩
      · rcases List.mem_append.1 hT with hT | hT
        · exact hF T hT
        · simp at hT; subst hT; exact hc
      · rw [fNodes_app]; rfl
      · rw [fAcc_app, fAcc_len]; simp [fAcc, FT.acc]
    · cases h
  · rw [if_neg (by dsimp only; omega), if_pos ha] at h
    rcases last_cases F with rfl | ⟨F', T, rfl⟩
    · simp [fAcc] at h
    · rw [hlast] at h
      dsimp only at h
      split at h
      · rename_i hc
        obtain ⟨hx, rfl, rfl⟩ := hc
        cases h
        rw [fAcc_len, fSize_app] at hx
        simp only [fSize] at hx
        refine ⟨F' ++ [.one k T], fun S hS => ?_, ?_, ?_⟩
        · rcases List.mem_append.1 hS with hS | hS
          · exact hF S (List.mem_append_left _ hS)
          · simp at hS; subst hS
            simp [FT.ok, ha, hF T (by simp)]
        · rw [fNodes_app, fNodes_app]
          simp only [fNodes, FT.nodes, List.append_nil, List.append_assoc, Nat.zero_add]
          congr 3
          simp only [Nod.mk.injEq, true_and, and_true, List.cons.injEq]
          omega
        · rw [fAcc_app, fAcc_app]
          simp only [fAcc, FT.acc, List.append_nil, List.append_assoc, Nat.zero_add, FT.deep]
      · cases h
  · rw [if_neg (by dsimp only; omega), if_neg (by dsimp only; omega), if_pos ha] at h
    rcases last_cases F with rfl | ⟨F', T, rfl⟩
    · simp [fAcc] at h
    · rw [hlast] at h
      dsimp only at h
      split at h
      · rename_i hc
        obtain ⟨hy, h1, hx, rfl⟩ := hc
        rcases last_cases F' with rfl | ⟨F'', S, rfl⟩
        · simp [fSize] at h1
        · have hss := S.size_pos
          have e2 : (fAcc 0 (F'' ++ [S] ++ [T]))[fSize (F'' ++ [S]) - 1]? = some (fSize F'', S.deep) := by
            obtain ⟨l, hl⟩ := S.acc_last (0 + fSize F'')
            rw [fAcc_app, List.getElem?_append_left (by rw [fAcc_len]; omega), fAcc_app, show fAcc (0 + fSize F'') [S] = S.acc (0 + fSize F'') by simp [fAcc], hl, ← List.append_assoc]
            have : fSize (F'' ++ [S]) - 1 = (fAcc 0 F'' ++ l).length := by
              have h2 : l.length + 1 = S.size := by rw [← FT.acc_len S (0 + fSize F''), hl]; simp
              rw [List.length_append, fAcc_len, fSize_app]; simp only [fSize]; omega
            rw [this, Nat.zero_add]
            exact List.getElem?_concat_length
          rw [e2] at h
          cases h
          rw [fAcc_len, fSize_app, fSize_app] at hy
          rw [fSize_app] at hx
          simp only [fSize] at hx hy
          refine ⟨F'' ++ [.two k S T], fun U hU => ?_, ?_, ?_⟩
          · rcases List.mem_append.1 hU with hU | hU
            · exact hF U (by simp [hU])
            · simp at hU; subst hU
              simp [FT.ok, ha, hF T (by simp), hF S (by simp)]
          · rw [fNodes_app, fNodes_app, fNodes_app]
            simp only [fNodes, FT.nodes, List.append_nil, List.append_assoc, Nat.zero_add, fSize_app, fSize]
            congr 4
            simp only [Nod.mk.injEq, true_and, List.cons.injEq, and_true]
            constructor <;> omega
          · rw [fAcc_app, fAcc_app, fAcc_app]
            simp only [fAcc, FT.acc, List.append_nil, List.append_assoc, Nat.zero_add, FT.deep, fSize_app, fSize, Nat.add_zero]
      · cases h
  · rw [if_neg (by dsimp only; omega), if_neg (by dsimp only; omega), if_neg (by dsimp only; omega)] at h
    cases h
theorem of_fromsGo : ∀ (l : List Nod) (F : List FT), (∀ T ∈ F, T.ok = true) → ∀ acc, fromsGo (fAcc 0 F) l = some acc → ∃ H : List FT, (∀ T ∈ H, T.ok = true) ∧ fNodes 0 H = fNodes 0 F ++ l ∧ acc = fAcc 0 H
  | [], F, hF, acc, h => by simp only [fromsGo, Option.some.injEq] at h; exact ⟨F, hF, by simp, h.symm⟩
  | o :: l, F, hF, acc, h => by
    simp only [fromsGo] at h
    split at h
    · rename_i p hp
      obtain ⟨H, h1, h2, h3⟩ := nod_forest hF hp
      rw [← h3] at h
      obtain ⟨J, j1, j2, j3⟩ := of_fromsGo l H h1 acc h
      exact ⟨J, j1, by rw [j2, h2]; simp, j3⟩
    · cases h
theorem of_froms {l : List Nod} {acc : List (Nat × Nat)} (h : fromsS l = some acc) : ∃ F : List FT, (∀ T ∈ F, T.ok = true) ∧ l = fNodes 0 F ∧ acc = fAcc 0 F := by
  obtain ⟨H, h1, h2, h3⟩ := of_fromsGo l [] (by simp) acc h
  exact ⟨H, h1, by rw [h2]; rfl, h3⟩
/-- a right formula is a tree -/
theorem fml_tree {l : List Nod} (h : fmlOk l = true) : ∃ T : FT, T.ok = true ∧ l = T.nodes 0 ∧ T.size ≤ 40 ∧ T.deep ≤ 12 := by
  unfold fmlOk at h
  simp only [Bool.and_eq_true, decide_eq_true_eq] at h
  obtain ⟨hl, h⟩ := h
  split at h
  · rename_i acc ha
    obtain ⟨F, h1, h2, h3⟩ := of_froms ha
    rcases last_cases F with rfl | ⟨F', T, rfl⟩
    · rw [h3] at h; simp [fAcc] at h
    · obtain ⟨m, hm⟩ := T.acc_last (0 + fSize F')
      have e : acc.getLast? = some (fSize F', T.deep) := by
        rw [h3, fAcc_app, show fAcc (0 + fSize F') [T] = T.acc (0 + fSize F') by simp [fAcc], hm, ← List.append_assoc, List.getLast?_concat, Nat.zero_add]
      rw [e] at h
      simp only [decide_eq_true_eq] at h
      have hF : F' = [] := by
        cases F' with
        | nil => rfl
        | cons S r => have := S.size_pos; simp only [fSize] at h; omega
      subst hF
      have e2 : l = T.nodes 0 := by rw [h2]; simp [fNodes]
      refine ⟨T, h1 T (by simp), e2, ?_, h.2⟩
      rw [← T.nodes_len 0, ← e2]; exact hl.2
  · cases h
theorem tree_fml {T : FT} (h : T.ok = true) (hs : T.size ≤ 40) (hd : T.deep ≤ 12) : fmlOk (T.nodes 0) = true := by
  unfold fmlOk fromsS
  have h1 := FT.froms h []
  obtain ⟨m, hm⟩ := T.acc_last 0
  simp only [List.length_nil, List.nil_append] at h1
  rw [h1, hm]
  dsimp only
  rw [List.getLast?_concat, T.nodes_len]
  have := T.size_pos
  simp [hd, hs]; omega
end Go.PV
namespace Go.PV
open Go
/-! formulas: their text; the program's reader of them -/
def onesL : List (Int × Bs) := [(2, [110, 111, 116]), (5, [98, 101, 102, 111, 114, 101]), (6, [111, 110, 99, 101]), (7, [97, 108, 119, 97, 121, 115])]
def twosL : List (Int × Bs) := [(3, [97, 110, 100]), (4, [111, 114]), (8, [115, 105, 110, 99, 101])]
def wordT (k : Int) : Bs := if k = 2 then [110, 111, 116] else if k = 3 then [97, 110, 100] else if k = 4 then [111, 114] else if k = 5 then [98, 101, 102, 111, 114, 101] else if k = 6 then [111, 110, 99, 101] else if k = 7 then [97, 108, 119, 97, 121, 115] else if k = 8 then [115, 105, 110, 99, 101] else []
namespace FT
def txt : FT → Bs
  | .at_ a => atomT a
  | .one k t => wordT k ++ [32] ++ t.txt
  | .two k s t => [40] ++ s.txt ++ [32] ++ wordT k ++ [32] ++ t.txt ++ [41]
def txts : FT → List Bs
  | .at_ a => [atomT a]
  | .one k t => t.txts ++ [(one k t).txt]
  | .two k s t => s.txts ++ t.txts ++ [(two k s t).txt]
def toks : Bs → FT → List (Bs × KT)
  | b, .at_ a => atomK b a
  | b, .one k t => (b, (1, wordT k)) :: t.toks [32]
  | b, .two k s t => (b, (5, [40])) :: (s.toks [] ++ ([32], (1, wordT k)) :: (t.toks [32] ++ [([], (5, [41]))]))
theorem txts_len : ∀ T : FT, T.txts.length = T.size
  | .at_ _ => rfl
  | .one _ t => by simp [txts, size, txts_len t]
  | .two _ s t => by simp [txts, size, txts_len s, txts_len t]; omega
theorem txts_last (T : FT) : ∃ l, T.txts = l ++ [T.txt] := by
  cases T with
  | at_ a => exact ⟨[], rfl⟩
  | one k t => exact ⟨_, rfl⟩
  | two k s t => exact ⟨_, rfl⟩
theorem weave_toks : ∀ (T : FT) (b : Bs), weaveK (T.toks b) = b ++ T.txt
  | .at_ a, b => by
    show b ++ (a.n ++ weaveK (argsK a.a)) = b ++ weaveK (atomK [] a)
    simp [atomK, weaveK]
  | .one k t, b => by simp [toks, weaveK, weave_toks t, txt]
  | .two k s t, b => by simp [toks, weaveK, weaveK_app, weave_toks s, weave_toks t, txt]
end FT
/-- a node's text, from those of the ones ahead -/
def nodT (acc : List Bs) (o : Nod) : Bs :=
  if armsN o.k = 0 then atomT o.a else if armsN o.k = 1 then wordT o.k ++ [32] ++ acc.getD o.x.toNat [] else [40] ++ acc.getD o.x.toNat [] ++ [32] ++ wordT o.k ++ [32] ++ acc.getD o.y.toNat [] ++ [41]
def txGo : List Bs → List Nod → List Bs
  | acc, [] => acc
  | acc, o :: l => txGo (acc ++ [nodT acc o]) l
def fmlT (l : List Nod) : Bs := (txGo [] l).getLastD []
theorem txGo_app : ∀ (l m : List Nod) (acc : List Bs), txGo acc (l ++ m) = txGo (txGo acc l) m
  | [], m, acc => rfl
  | o :: l, m, acc => by simp only [List.cons_append, txGo]; exact txGo_app l m _
theorem getD_last (l m : List Bs) (x : Bs) (n : Nat) (h : n = l.length) : (l ++ x :: m).getD n [] = x := by
  subst h; simp [List.getD_eq_getElem?_getD]
theorem FT.tx : ∀ {T : FT}, T.ok = true → ∀ (acc : List Bs), txGo acc (T.nodes acc.length) = acc ++ T.txts
  | .at_ a, h, acc => rfl
  | .one k t, h, acc => by
    simp only [ok, Bool.and_eq_true, decide_eq_true_eq] at h
    obtain ⟨l, hl⟩ := t.txts_last
    have hlen := t.txts_len
    rw [hl, List.length_append, List.length_cons, List.length_nil] at hlen
    simp only [nodes, txGo_app, FT.tx h.2, txGo, nodT]
    rw [if_neg (by omega), if_pos h.1, hl]
    have e : (acc ++ (l ++ [t.txt])).getD ((acc.length + t.size : Nat) - 1 : Int).toNat [] = t.txt := by
      rw [← List.append_assoc]
      exact getD_last _ _ _ _ (by rw [List.length_append]; omega)
    rw [e]
    simp only [FT.txts, FT.txt, hl, List.append_assoc]
  | .two k s t, h, acc => by
    simp only [ok, Bool.and_eq_true, decide_eq_true_eq] at h
    obtain ⟨h1, h2, h3⟩ := h
    have el : (acc ++ s.txts).length = acc.length + s.size := by rw [List.length_append, txts_len]
    have ht := FT.tx h3 (acc ++ s.txts)
    rw [el] at ht
    obtain ⟨l, hl⟩ := t.txts_last
    obtain ⟨m, hm⟩ := s.txts_last
    have hll := t.txts_len
    have hml := s.txts_len
    rw [hl, List.length_append, List.length_cons, List.length_nil] at hll
    rw [hm, List.length_append, List.length_cons, List.length_nil] at hml
    simp only [nodes, txGo_app, FT.tx h2, ht, txGo, nodT]
    rw [if_neg (by omega), if_neg (by omega)]
    have e1 : (acc ++ s.txts ++ t.txts).getD ((acc.length + s.size : Nat) - 1 : Int).toNat [] = s.txt := by
      rw [hm, show acc ++ (m ++ [s.txt]) ++ t.txts = (acc ++ m) ++ s.txt :: t.txts by simp]
      exact getD_last _ _ _ _ (by rw [List.length_append]; omega)
    have e2 : (acc ++ s.txts ++ t.txts).getD ((acc.length + s.size + t.size : Nat) - 1 : Int).toNat [] = t.txt := by
      rw [hl, ← List.append_assoc]
      exact getD_last _ _ _ _ (by rw [List.length_append, el]; omega)
    rw [e1, e2]
    simp only [FT.txts, FT.txt, List.append_assoc]
theorem fmlT_tree {T : FT} (h : T.ok = true) : fmlT (T.nodes 0) = T.txt := by
  obtain ⟨l, hl⟩ := T.txts_last
  unfold fmlT
  have := FT.tx h []
  simp only [List.length_nil, List.nil_append] at this
  rw [this, hl]; simp
/-! the machine -/
abbrev Frm := Int × Int
namespace Rd
def wordsR : List (Int × Bs) → Rd → Int × Rd
  | [], r => (0, r)
  | (k, s) :: l, r => if r.see 1 s then (k, r.step) else wordsR l r
def beg : Nat → Rd → List Frm → List Frm × Rd
  | 0, r, st => (st, r)
  | f + 1, r, st => if (wordsR onesL r).1 = 0 then (if r.see 5 [40] then beg f r.step ((0, 0) :: st) else (st, r)) else beg f (wordsR onesL r).2 (((wordsR onesL r).1, 0) :: st)
def clo : List Frm → List Nod → Rd → Bool × List Frm × List Nod × Rd
  | [], l, r => (true, [], l, r)
  | (k, a) :: st, l, r => if r.isOpen then
      if armsN k = 1 then clo st (l ++ [⟨k, zeroA, (l.length : Int) - 1, 0⟩]) r
      else if armsN k = 2 then clo st (l ++ [⟨k, zeroA, a, (l.length : Int) - 1⟩]) (r.want 5 [41])
      else if (wordsR twosL r).1 = 0 then (true, (k, a) :: st, l, r.fail)
      else (false, ((wordsR twosL r).1, (l.length : Int) - 1) :: st, l, (wordsR twosL r).2)
    else (true, (k, a) :: st, l, r)
def forG : Nat → Rd → List Frm → List Nod → List Frm × List Nod × Rd
  | 0, r, st, l => (st, l, r)
  | f + 1, r, st, l => if r.isOpen then
      let b := beg (r.l.length + 1) r st
      let x := b.2.atom
      let c := clo b.1 (l ++ [⟨1, x.1, 0, 0⟩]) x.2
      if c.1 then (c.2.1, c.2.2.1, c.2.2.2) else forG f c.2.2.2 c.2.1 c.2.2.1
    else (st, l, r)
def formula (r : Rd) : List Frm × List Nod × Rd := forG (r.l.length + 1) r [] []
theorem wordsR_l : ∀ (L : List (Int × Bs)) (r : Rd), (wordsR L r).2.l = r.l ∧ r.i ≤ (wordsR L r).2.i
  | [], r => ⟨rfl, Nat.le_refl _⟩
  | (k, s) :: L, r => by
    unfold wordsR
    split
    · exact ⟨rfl, Nat.le_succ _⟩
    · exact wordsR_l L r
theorem wordsR_0 : ∀ {L : List (Int × Bs)} {r : Rd}, (∀ p ∈ L, p.1 ≠ 0) → (wordsR L r).1 = 0 → (wordsR L r).2 = r
  | [], r, _, _ => rfl
  | (k, s) :: L, r, hL, h => by
    unfold wordsR at *
    split
    · rename_i hs
      rw [if_pos hs] at h
      exact absurd h (hL (k, s) (by simp))
    · rename_i hs
      rw [if_neg hs] at h
      exact wordsR_0 (fun p hp => hL p (by simp [hp])) h
theorem wordsR_ne : ∀ {L : List (Int × Bs)} {r : Rd}, (wordsR L r).1 ≠ 0 → (wordsR L r).2 = r.step ∧ r.isOpen = true ∧ r.i < r.l.length ∧ ∃ p ∈ L, p.1 = (wordsR L r).1
  | [], r, h => absurd rfl h
  | (k, s) :: L, r, h => by
    unfold wordsR at *
    split
    · rename_i hs
      exact ⟨rfl, (see_open hs).1, cur_lt (see_open hs).2, (k, s), by simp, rfl⟩
    · rename_i hs
      rw [if_neg hs] at h
      obtain ⟨a, b, c, p, d, e⟩ := wordsR_ne h
      exact ⟨a, b, c, p, by simp [d], e⟩
theorem ones_ne : ∀ p ∈ onesL, p.1 ≠ 0 := by decide
theorem twos_ne : ∀ p ∈ twosL, p.1 ≠ 0 := by decide
theorem beg_l : ∀ (f : Nat) (r : Rd) (st : List Frm), (beg f r st).2.l = r.l ∧ r.i ≤ (beg f r st).2.i
  | 0, r, st => ⟨rfl, Nat.le_refl _⟩
  | f + 1, r, st => by
    unfold beg
    split
    · split
      · have h := beg_l f r.step ((0, 0) :: st)
        exact ⟨h.1, Nat.le_of_succ_le h.2⟩
      · exact ⟨rfl, Nat.le_refl _⟩
    · have h1 := wordsR_l onesL r
      have h := beg_l f (wordsR onesL r).2 (((wordsR onesL r).1, 0) :: st)
      exact ⟨h.1.trans h1.1, Nat.le_trans h1.2 h.2⟩
theorem clo_l : ∀ (st : List Frm) (l : List Nod) (r : Rd), (clo st l r).2.2.2.l = r.l ∧ r.i ≤ (clo st l r).2.2.2.i
  | [], l, r => ⟨rfl, Nat.le_refl _⟩
  | (k, a) :: st, l, r => by
    unfold clo
    split
    · split
      · exact clo_l st _ r
      · split
        · have h := want_l r 5 [41]
          have h2 := clo_l st (l ++ [⟨k, zeroA, a, (l.length : Int) - 1⟩]) (r.want 5 [41])
          exact ⟨h2.1.trans h.1, Nat.le_trans h.2 h2.2⟩
        · split
          · exact ⟨rfl, Nat.le_refl _⟩
          · exact wordsR_l twosL r
    · exact ⟨rfl, Nat.le_refl _⟩
theorem forG_l : ∀ (f : Nat) (r : Rd) (st : List Frm) (l : List Nod), (forG f r st l).2.2.l = r.l ∧ r.i ≤ (forG f r st l).2.2.i
  | 0, r, st, l => ⟨rfl, Nat.le_refl _⟩
  | f + 1, r, st, l => by
    unfold forG
    split
    · have h1 := beg_l (r.l.length + 1) r st
      have h2 := atom_l (beg (r.l.length + 1) r st).2
      have h3 := clo_l (beg (r.l.length + 1) r st).1 (l ++ [⟨1, (beg (r.l.length + 1) r st).2.atom.1, 0, 0⟩]) (beg (r.l.length + 1) r st).2.atom.2
      dsimp only
      generalize clo (beg (r.l.length + 1) r st).1 (l ++ [⟨1, (beg (r.l.length + 1) r st).2.atom.1, 0, 0⟩]) (beg (r.l.length + 1) r st).2.atom.2 = c at *
      split
      · exact ⟨by dsimp only; rw [h3.1, h2.1, h1.1], by dsimp only; omega⟩
      · have h4 := forG_l f c.2.2.2 c.2.1 c.2.2.1
        exact ⟨by rw [h4.1, h3.1, h2.1, h1.1], by omega⟩
    · exact ⟨rfl, Nat.le_refl _⟩
theorem formula_l (r : Rd) : r.formula.2.2.l = r.l ∧ r.i ≤ r.formula.2.2.i := forG_l _ _ _ _
end Rd
end Go.PV
namespace Go.PV
open Go
/-! what is written of a formula is read -/
theorem word_tk {k : Int} (h : armsN k = 1 ∨ armsN k = 2) : Tk (1, wordT k) := by
  rcases arms_cases k with ⟨a, b⟩ | ⟨a, rfl | rfl | rfl | rfl⟩ | ⟨a, rfl | rfl | rfl⟩ | ⟨a, b⟩
  · omega
  all_goals first | (unfold Tk; decide +kernel) | omega
theorem adv_rest {q : Rd} {a c : List KT} (e : q.rest = a ++ c) : (q.adv a.length).rest = c := by
  unfold Rd.rest at e ⊢
  unfold Rd.adv
  dsimp only
  rw [← List.drop_drop, List.map_drop, e, List.drop_left]
namespace FT
theorem txt_head : ∀ {T : FT}, T.ok = true → ∃ c r, T.txt = c :: r ∧ c.toNat ≠ 61 ∧ c.toNat ≠ 62
  | .at_ a, h => by
    have h : atomOk a = true := h
    unfold atomOk at h
    rw [Bool.and_eq_true, Bool.and_eq_true] at h
    obtain ⟨c, r, e, h1, h2⟩ := tk_head (tk_word (large := false) (nameS_word h.1.1)) (by simp)
    have e : a.n = c :: r := e
    exact ⟨c, r ++ weaveK (argsK a.a), by show [] ++ (a.n ++ weaveK (argsK a.a)) = _; rw [e]; rfl, h1, h2⟩
  | .one k t, h => by
    simp only [ok, Bool.and_eq_true, decide_eq_true_eq] at h
    obtain ⟨c, r, e, h1, h2⟩ := tk_head (word_tk (.inl h.1)) (by simp)
    have e : wordT k = c :: r := e
    exact ⟨c, r ++ [32] ++ t.txt, by rw [txt, e]; rfl, h1, h2⟩
  | .two k s t, h => ⟨40, _, by simp only [txt]; rfl, by decide, by decide⟩
theorem wov : ∀ {T : FT}, T.ok = true → ∀ (b tail : Bs), blk b = true → stopH tail = true → WovK tail (T.toks b)
  | .at_ a, h, b, tail, hb, ht => wov_atom ht hb h
  | .one k t, h, b, tail, hb, ht => by
    simp only [ok, Bool.and_eq_true, decide_eq_true_eq] at h
    refine ⟨hb, word_tk (.inl h.1), ?_, wov h.2 [32] tail rfl ht⟩
    rw [weave_toks]; exact okEnd_stop rfl
  | .two k s t, h, b, tail, hb, ht => by
    simp only [ok, Bool.and_eq_true, decide_eq_true_eq] at h
    obtain ⟨h1, h2, h3⟩ := h
    refine ⟨hb, rfl, ?_, WovK.app (wov h2 [] _ rfl rfl) ⟨rfl, word_tk (.inr h1), ?_, WovK.app (wov h3 [32] _ rfl rfl) ⟨rfl, rfl, okEnd_stop ht, trivial⟩⟩⟩
    · rw [weaveK_app, weave_toks, List.nil_append, List.append_assoc]
      obtain ⟨c, r, e, h1, h2⟩ := txt_head h2
      rw [e]; exact okEnd_sign (by decide) ⟨h1, h2⟩
    · rw [weaveK_app, weave_toks]; exact okEnd_stop rfl
def ats : FT → Nat
  | .at_ _ => 1
  | .one _ t => t.ats
  | .two _ s t => s.ats + t.ats
theorem ats_pos : ∀ T : FT, 1 ≤ T.ats
  | .at_ _ => Nat.le_refl _
  | .one _ x => x.ats_pos
  | .two _ s t => Nat.le_trans s.ats_pos (Nat.le_add_right _ _)
theorem size_toks : ∀ (T : FT) (b : Bs), T.size ≤ (T.toks b).length ∧ T.ats ≤ T.size
  | .at_ a, b => ⟨by simp [size, toks, atomK], Nat.le_refl _⟩
  | .one k t, b => by
    have := size_toks t [32]
    simp only [size, toks, ats, List.length_cons]; omega
  | .two k s t, b => by
    have := size_toks s []
    have := size_toks t [32]
    simp only [size, toks, ats, List.length_cons, List.length_append, List.length_nil]; omega
end FT
namespace Rd
/-- behind an operand -/
def contG (f : Nat) (st : List Frm) (l : List Nod) (r : Rd) : List Frm × List Nod × Rd :=
  if (clo st l r).1 then ((clo st l r).2.1, (clo st l r).2.2.1, (clo st l r).2.2.2) else forG f (clo st l r).2.2.2 (clo st l r).2.1 (clo st l r).2.2.1
def startG (fb f : Nat) (r : Rd) (st : List Frm) (l : List Nod) : List Frm × List Nod × Rd :=
  contG f (beg fb r st).1 (l ++ [⟨1, (beg fb r st).2.atom.1, 0, 0⟩]) (beg fb r st).2.atom.2
theorem forG_start {r : Rd} (ho : r.isOpen = true) (f : Nat) (st : List Frm) (l : List Nod) : forG (f + 1) r st l = startG (r.l.length + 1) f r st l := by
  rw [forG, if_pos ho]; rfl
theorem wordsR_no : ∀ {L : List (Int × Bs)} {r : Rd}, (∀ p ∈ L, r.rest.head? ≠ some (1, p.2)) → wordsR L r = (0, r)
  | [], r, _ => rfl
  | (k, s) :: L, r, h => by
    unfold wordsR
    have : r.see 1 s = false := see_no (x := (1, s)) (h (k, s) (by simp))
    rw [if_neg (by rw [this]; simp)]
    exact wordsR_no fun p hp => h p (by simp [hp])
theorem wordsR_yes : ∀ {L : List (Int × Bs)} {r : Rd} {k : Int} {s : Bs} {m : List KT}, r.isOpen = true → r.rest = (1, s) :: m → (k, s) ∈ L → (∀ p ∈ L, p.2 = s → p.1 = k) → wordsR L r = (k, r.step)
  | [], r, k, s, m, _, _, h, _ => by cases h
  | (k', s') :: L, r, k, s, m, ho, hr, h, hu => by
    unfold wordsR
    by_cases e : s' = s
    · subst e
      have : r.see 1 s' = true := see_rest ho hr
      have hk : k' = k := hu (k', s') (by simp) rfl
      rw [if_pos this, hk]
    · have : r.see 1 s' = false := see_no (x := (1, s')) (by rw [hr]; simp; exact fun q => e q.symm)
      rw [if_neg (by rw [this]; simp)]
      refine wordsR_yes ho hr ?_ (fun p hp => hu p (by simp [hp]))
      rcases List.mem_cons.1 h with h | h
      · exact absurd (congrArg Prod.snd h).symm e
      · exact h
theorem one_word {k : Int} (h : armsN k = 1) : (k, wordT k) ∈ onesL ∧ ∀ p ∈ onesL, p.2 = wordT k → p.1 = k := by
  rcases arms_cases k with ⟨a, b⟩ | ⟨a, rfl | rfl | rfl | rfl⟩ | ⟨a, b⟩ | ⟨a, b⟩
  · omega
  · decide
  · decide
  · decide
  · decide
  · omega
  · omega
theorem two_word {k : Int} (h : armsN k = 2) : (k, wordT k) ∈ twosL ∧ ∀ p ∈ twosL, p.2 = wordT k → p.1 = k := by
  rcases arms_cases k with ⟨a, b⟩ | ⟨a, b⟩ | ⟨a, rfl | rfl | rfl⟩ | ⟨a, b⟩
  · omega
  · omega
  · decide
  · decide
  · decide
  · omega
theorem one_ne {k : Int} (h : armsN k = 1) : k ≠ 0 := by rintro rfl; simp [armsN] at h
theorem two_ne {k : Int} (h : armsN k = 2) : k ≠ 0 := by rintro rfl; simp [armsN] at h
theorem name_one {s : Bs} (h : nameS s = true) : ∀ p ∈ onesL, s ≠ p.2 := by
  unfold nameS at h
  simp only [Bool.and_eq_true, Bool.not_eq_true', decide_eq_false_iff_not] at h
  intro p hp e
  refine h.2 ?_
  rw [e]
  have : ∀ p ∈ onesL, p.2 ∈ wordsL := by decide
  exact this p hp
theorem start_rest : ∀ {T : FT}, T.ok = true → ∀ (fb f : Nat) (r : Rd) (b : Bs) (m : List KT) (st : List Frm) (l : List Nod), T.size ≤ fb → (T.toks b).length ≤ r.l.length → T.ats ≤ f + 1 → r.isOpen = true → r.rest = (T.toks b).map (·.2) ++ m → m.head? ≠ some (5, [40]) →
    startG fb f r st l = contG (f + 1 - T.ats) st (l ++ T.nodes l.length) (r.adv (T.toks b).length)
  | .at_ a, h, fb, f, r, b, m, st, l, hfb, hlen, hf, ho, hr, hm => by
    have h : atomOk a = true := h
    have hr : r.rest = (atomK b a).map (·.2) ++ m := hr
    have hat := atom_rest ho h hr (fun _ => hm)
    have hn : nameS a.n = true := by unfold atomOk at h; rw [Bool.and_eq_true, Bool.and_eq_true] at h; exact h.1.1
    have hh : r.rest.head? = some (1, a.n) := by rw [hr]; rfl
    have hb : beg fb r st = (st, r) := by
      cases fb with
      | zero => rfl
      | succ fb =>
        unfold beg
        have hw : wordsR onesL r = (0, r) := wordsR_no fun p hp e => by
          rw [hh] at e
          simp only [Option.some.injEq, Prod.mk.injEq, true_and] at e
          exact name_one hn p hp e
        have hs : r.see 5 [40] = false := see_no (x := (5, [40])) (by rw [hh]; simp)
        rw [hw, if_pos rfl, if_neg (by rw [hs]; simp)]
    unfold startG
    rw [hb, hat]
    rfl
  | .one k t, h, fb, f, r, b, m, st, l, hfb, hlen, hf, ho, hr, hm => by
    simp only [FT.ok, Bool.and_eq_true, decide_eq_true_eq] at h
    obtain ⟨h1, h2⟩ := h
    simp only [FT.size] at hfb
    simp only [FT.toks, List.length_cons] at hlen
    obtain ⟨fb, rfl⟩ : ∃ g, fb = g + 1 := ⟨fb - 1, by omega⟩
    have hr : r.rest = (1, wordT k) :: ((t.toks [32]).map (·.2) ++ m) := hr
    have hr2 := rest_cons hr
    obtain ⟨w1, w2⟩ := one_word h1
    have hw := wordsR_yes ho hr w1 w2
    have hb : startG (fb + 1) f r st l = startG fb f r.step ((k, 0) :: st) l := by
      unfold startG
      rw [beg, hw, if_neg (one_ne h1)]
    have ih := start_rest h2 fb f r.step [32] m ((k, 0) :: st) l (by omega) (by show _ ≤ r.l.length; omega) hf ho hr2.2 hm
    rw [hb, ih]
    unfold contG
    have hc : clo ((k, 0) :: st) (l ++ t.nodes l.length) (r.step.adv (t.toks [32]).length) = clo st (l ++ (FT.one k t).nodes l.length) (r.adv ((FT.one k t).toks b).length) := by
      have ho2 : (r.step.adv (t.toks [32]).length).isOpen = true := ho
      rw [clo, if_pos ho2, if_pos h1]
      have e1 : ((l ++ t.nodes l.length).length : Int) - 1 = (l.length + t.size : Nat) - 1 := by rw [List.length_append, FT.nodes_len]
      have e2 : r.step.adv (t.toks [32]).length = r.adv ((FT.one k t).toks b).length := by
        simp only [FT.toks, List.length_cons, adv, step]; congr 1; omega
      rw [e1, e2]
      simp only [FT.nodes, List.append_assoc]
    rw [hc]
    rfl
  | .two k s t, h, fb, f, r, b, m, st, l, hfb, hlen, hf, ho, hr, hm => by
    simp only [FT.ok, Bool.and_eq_true, decide_eq_true_eq] at h
    obtain ⟨h1, h2, h3⟩ := h
    simp only [FT.size] at hfb
    simp only [FT.ats] at hf
    simp only [FT.toks, List.length_cons, List.length_append, List.length_nil] at hlen
    have hsp := s.ats_pos
    have htp := t.ats_pos
    have hts := t.size_toks [32]
    obtain ⟨fb, rfl⟩ : ∃ g, fb = g + 1 := ⟨fb - 1, by omega⟩
    have hr : r.rest = (5, [40]) :: ((s.toks []).map (·.2) ++ ((1, wordT k) :: ((t.toks [32]).map (·.2) ++ ((5, [41]) :: m)))) := by
      rw [hr]; simp [FT.toks]
    have hr2 := rest_cons hr
    have hw0 : wordsR onesL r = (0, r) := wordsR_no fun p hp e => by rw [hr] at e; simp at e
    have hs0 : r.see 5 [40] = true := see_rest ho hr
    have hb : startG (fb + 1) f r st l = startG fb f r.step ((0, 0) :: st) l := by
      unfold startG
      rw [beg, hw0, if_pos rfl, if_pos hs0]
    have ih := start_rest h2 fb f r.step [] _ ((0, 0) :: st) l (by omega) (by show _ ≤ r.l.length; omega) (by omega) ho hr2.2 (by simp)
    have hr3 := adv_rest hr2.2
    rw [List.length_map] at hr3
    obtain ⟨w1, w2⟩ := two_word h1
    have ho3 : (r.step.adv (s.toks []).length).isOpen = true := ho
    have hw := wordsR_yes ho3 hr3 w1 w2
    have hr4 := (rest_cons hr3).2
    have hcl : clo ((0, 0) :: st) (l ++ s.nodes l.length) (r.step.adv (s.toks []).length) = (false, (k, ((l ++ s.nodes l.length).length : Int) - 1) :: st, l ++ s.nodes l.length, (r.step.adv (s.toks []).length).step) := by
      rw [clo, if_pos ho3, if_neg (by decide), if_neg (by decide), hw, if_neg (two_ne h1)]
    rw [hb, ih]
    unfold contG
    rw [hcl]
    simp only [Bool.false_eq_true, if_false]
    obtain ⟨g, hg⟩ : ∃ g, f + 1 - s.ats = g + 1 := ⟨f - s.ats, by omega⟩
    rw [hg, forG_start (r := (r.step.adv (s.toks []).length).step) ho3]
    have ih2 := start_rest h3 (r.l.length + 1) g (r.step.adv (s.toks []).length).step [32] _ ((k, ((l ++ s.nodes l.length).length : Int) - 1) :: st) (l ++ s.nodes l.length) (by omega) (by show _ ≤ r.l.length; omega) (by omega) ho3 hr4 (by simp)
    have hll : (r.step.adv (s.toks []).length).step.l.length = r.l.length := rfl
    rw [hll, ih2]
    unfold contG
    have hr5 := adv_rest hr4
    rw [List.length_map] at hr5
    have ho5 : ((r.step.adv (s.toks []).length).step.adv (t.toks [32]).length).isOpen = true := ho
    have hw5 := want_rest (x := (5, [41])) ho5 hr5
    have hc : clo ((k, ((l ++ s.nodes l.length).length : Int) - 1) :: st) (l ++ s.nodes l.length ++ t.nodes (l ++ s.nodes l.length).length) ((r.step.adv (s.toks []).length).step.adv (t.toks [32]).length) = clo st (l ++ (FT.two k s t).nodes l.length) (r.adv ((FT.two k s t).toks b).length) := by
      rw [clo, if_pos ho5, if_neg (by omega), if_pos h1]
      have hw5 : ((r.step.adv (s.toks []).length).step.adv (t.toks [32]).length).want 5 [41] = ((r.step.adv (s.toks []).length).step.adv (t.toks [32]).length).step := hw5
      rw [hw5]
      have e2 : ((r.step.adv (s.toks []).length).step.adv (t.toks [32]).length).step = r.adv ((FT.two k s t).toks b).length := by
        simp only [FT.toks, List.length_cons, List.length_append, List.length_nil, adv, step]; congr 1; omega
      have e1 : (l ++ s.nodes l.length).length = l.length + s.size := by rw [List.length_append, FT.nodes_len]
      have e3 : (l ++ s.nodes l.length ++ t.nodes (l.length + s.size)).length = l.length + s.size + t.size := by rw [List.length_append, e1, FT.nodes_len]
      rw [e2, e1, e3]
      simp only [FT.nodes, List.append_assoc]
    rw [hc]
    have e : g + 1 - t.ats = f + 1 - (FT.two k s t).ats := by simp only [FT.ats]; omega
    rw [e]
theorem formula_rest {r : Rd} {T : FT} {b : Bs} {m : List KT} (h : T.ok = true) (ho : r.isOpen = true) (hr : r.rest = (T.toks b).map (·.2) ++ m) (hm : m.head? ≠ some (5, [40])) : r.formula = ([], T.nodes 0, r.adv (T.toks b).length) := by
  have hlen : (T.toks b).length ≤ r.l.length := by
    have := congrArg List.length hr
    unfold rest at this
    simp at this
    omega
  have hs := T.size_toks b
  unfold formula
  rw [forG_start ho, start_rest h (r.l.length + 1) r.l.length r b m [] [] (by omega) hlen (by omega) ho hr hm]
  unfold contG
  rw [clo]
  rfl
end Rd
end Go.PV
