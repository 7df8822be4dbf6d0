/- Part of the proof of TracePlaces. -/
import Derived.Test.YtfdopmapaaagoaaGreatDoorM5
import Derived.ChangeArms
import Derived.DataElems
import Derived.DataReads
import Derived.SizedLaws
import Derived.ChangeSlices
import Derived.WideShapes
import Derived.ChangeShapes
import Derived.JoinedOf
import Derived.SevenTiedAt
import Derived.Test.YtfdopmapaaagoaaGreatDoorRows
import Derived.LaidMore
import Derived.Stop.LaidErr
import Derived.Lib.LaidTab
import Derived.MakeChecks
import Derived.LaidLaws
namespace Go.PV
open Go
/-! law 14: traces, written and read -/
theorem eventS_back {l : List Tok} {i : Nat} {f : Fct} {b : Bs} {m : List KT} (h : factOk f = true) (hr : (l.drop i).map kt = (atomK b f.at).map (·.2) ++ (5, [46]) :: m) : eventS l i = (f, i + (atomK b f.at).length + 1, 0) := by
  have e := readA_back (l := l) (i := i) (a := f.at) (b := b) (m := (5, [46]) :: m) (by rw [at_ok]; exact h) hr (fun _ => by simp)
  have hg : ∃ t, l[i + (atomK b f.at).length]? = some t ∧ kt t = (5, [46]) := by
    have h1 : ((l.drop i).map kt)[(atomK b f.at).length]? = some (5, [46]) := by
      rw [hr, List.getElem?_append_right (by simp)]; simp
    rw [List.getElem?_map, List.getElem?_drop, Option.map_eq_some_iff] at h1
    exact h1
  obtain ⟨t, ht, hk⟩ := hg
  simp only [kt, Prod.mk.injEq] at hk
  unfold eventS
  rw [e]
  dsimp only
  rw [if_neg (by simp), at_free, if_neg (by simp), ht]
  dsimp only
  rw [if_pos hk, at_gr]
theorem rest_add {l : List Tok} {i : Nat} {x m : List KT} (h : (l.drop i).map kt = x ++ m) : (l.drop (i + x.length)).map kt = m := by
  rw [← List.drop_drop, List.map_drop, h, List.drop_left]
theorem traceGo_back : ∀ (fs : List Fct) (l : List Tok) (b : Bs) (i f : Nat), fs.all factOk = true → (l.drop i).map kt = (traceK b fs).map (·.2) → fs.length ≤ f → traceGo l f i = (fs, none) ∧ traceAt l fs.length i = i + (traceK b fs).length
  | [], l, b, i, f, _, hr, _ => by
    have hd : l.drop i = [] := by simpa [traceK] using hr
    have hi := List.drop_eq_nil_iff.1 hd
    refine ⟨?_, rfl⟩
    cases f with
    | zero => rfl
    | succ f => rw [traceGo, if_neg (by omega)]
  | g :: r, l, b, i, f, hk, hr, hf => by
    rw [List.all_cons, Bool.and_eq_true] at hk
    obtain ⟨f, rfl⟩ : ∃ f', f = f' + 1 := ⟨f - 1, by simp at hf; omega⟩
    have hr2 : (l.drop i).map kt = (atomK b g.at).map (·.2) ++ (5, [46]) :: (traceK [10] r).map (·.2) := by rw [hr, traceK]; simp
    have e := eventS_back hk.1 hr2
    have hi : i < l.length := by
      rcases Nat.lt_or_ge i l.length with h | h
      · exact h
      · rw [List.drop_eq_nil_iff.2 h] at hr2; simp at hr2
    have hr3 : (l.drop (i + (atomK b g.at).length + 1)).map kt = (traceK [10] r).map (·.2) := by
      have := rest_add (x := (atomK b g.at).map (·.2) ++ [(5, [46])]) (m := (traceK [10] r).map (·.2)) (by rw [hr2]; simp)
      simpa [Nat.add_assoc] using this
    obtain ⟨i1, i2⟩ := traceGo_back r l [10] _ f hk.2 hr3 (by simp at hf; omega)
    rw [traceGo, if_pos hi, e]
    dsimp only
    rw [if_pos rfl, i1]
    refine ⟨rfl, ?_⟩
    rw [List.length_cons, traceAt, e]
    dsimp only
    rw [i2, traceK, List.length_append, List.length_cons]; omega
/-- the signs of a trace's text -/
theorem toks_trace {l : List Fct} (h : l.all factOk = true) : errR (traceT l) = 0 ∧ (toksR (traceT l)).map kt = (traceK [] l).map (·.2) ∧ toksR (traceT l) = posL (traceT l) 0 (traceK [] l) := by
  by_cases hl : l = []
  · subst hl; exact ⟨rfl, rfl, rfl⟩
  · have hw := wov_trace l [] [10] h rfl rfl
    obtain ⟨h1, h2, _⟩ := wovK_R hw rfl
    rw [weave_trace l [] hl, List.nil_append] at h1 h2
    exact ⟨h2, by rw [h1, posL_kt], h1⟩
theorem traceK_len : ∀ (l : List Fct) (b : Bs), l.length ≤ (traceK b l).length
  | [], b => Nat.zero_le _
  | f :: r, b => by have := traceK_len r [10]; rw [traceK, List.length_append, List.length_cons, List.length_cons]; omega
theorem parse_trace {l : List Fct} (h : l.all factOk = true) : parseT (traceT l) = if 200 < l.length then ([], placeT (toksR (traceT l)) (traceAt (toksR (traceT l)) 200 0), 2) else (l, (0, 0), 0) := by
  obtain ⟨h1, h2, _⟩ := toks_trace h
  have hlen : (toksR (traceT l)).length = (traceK [] l).length := by have := congrArg List.length h2; simpa using this
  have hb := traceGo_back l (toksR (traceT l)) [] 0 (toksR (traceT l)).length h (by rw [List.drop_zero]; exact h2) (by rw [hlen]; exact traceK_len l [])
  unfold parseT
  rw [if_pos h1]
  dsimp only
  rw [hb.1]
theorem traceGo_ok (l : List Tok) : ∀ (f i : Nat), (∀ x ∈ (traceGo l f i).1, factOk x = true) ∧ ∀ n, (traceGo l f i).2 = some n → i ≤ l.length → n ≤ l.length ∧ 0 < l.length
  | 0, i => ⟨fun x hx => by simp [traceGo] at hx, fun n h => by simp [traceGo] at h⟩
  | f + 1, i => by
    rw [traceGo]
    split
    · rename_i hi
      have hp := eventS_place (l := l) (i := i) (by omega)
      dsimp only
      split
      · rename_i h0
        obtain ⟨e1, e2, e3⟩ := eventS_ok h0
        obtain ⟨i1, i2⟩ := traceGo_ok l f (eventS l i).2.1
        refine ⟨fun x hx => ?_, fun n hn _ => i2 n hn hp.2.1⟩
        rcases List.mem_cons.1 hx with rfl | hx
        · exact e1
        · exact i1 x hx
      · refine ⟨fun x hx => by simp at hx, fun n hn _ => ?_⟩
        simp only [Option.some.injEq] at hn
        exact ⟨by omega, by omega⟩
    · exact ⟨fun x hx => by simp at hx, fun n hn => by simp at hn⟩
/-- places in a text -/
theorem toks_pos (s : Bs) : ∀ t ∈ toksR s, 1 ≤ t.p.1 ∧ 1 ≤ t.p.2 := by
  have go : ∀ (l : List Tok) (lo : Nat), Chain s lo l → ∀ t ∈ l, 1 ≤ t.p.1 ∧ 1 ≤ t.p.2 := by
    intro l
    induction l with
    | nil => intro lo _ t ht; cases ht
    | cons u l ih =>
      rintro lo ⟨i, h1, h2, h3, h4, h5, h6⟩ t ht
      rcases List.mem_cons.1 ht with rfl | ht
      · have := posS_le s i (by omega)
        rw [h4]; exact ⟨this.1, this.2.2.1⟩
      · exact ih _ h6 t ht
  exact go _ 0 (chain_R s)
theorem placeT_pos {l : List Tok} (h : ∀ t ∈ l, 1 ≤ t.p.1 ∧ 1 ≤ t.p.2) (hl : 0 < l.length) (n : Nat) : 1 ≤ (placeT l n).1 ∧ 1 ≤ (placeT l n).2 := by
  unfold placeT
  split
  · rename_i t ht; exact h t (List.mem_of_getElem? ht)
  · have hk : l.length - 1 < l.length := by omega
    rw [List.getLast?_eq_getElem?, List.getElem?_eq_getElem hk]
    have := h _ (List.getElem_mem hk)
    dsimp only; omega
theorem parseT_cases (s : Bs) : ((parseT s).2.2 = 0 ∧ (parseT s).2.1 = (0, 0) ∧ traceOk (parseT s).1 = 0) ∨ ((parseT s).2.2 ≠ 0 ∧ (parseT s).1 = [] ∧ 1 ≤ (parseT s).2.1.1 ∧ 1 ≤ (parseT s).2.1.2) := by
  unfold parseT
  by_cases he : errR s = 0
  · rw [if_pos he]
    dsimp only
    obtain ⟨g1, g2⟩ := traceGo_ok (toksR s) (toksR s).length 0
    cases hx : (traceGo (toksR s) (toksR s).length 0).2 with
    | some n =>
      obtain ⟨_, hl⟩ := g2 n hx (Nat.zero_le _)
      have := placeT_pos (toks_pos s) hl n
      exact .inr ⟨by dsimp only; omega, rfl, this.1, this.2⟩
    | none =>
      dsimp only
      by_cases hq : 200 < (traceGo (toksR s) (toksR s).length 0).1.length
      · rw [if_pos hq]
        have hl : 0 < (toksR s).length := by
          rcases Nat.eq_zero_or_pos (toksR s).length with h | h
          · rw [h] at hq; simp [traceGo] at hq
          · exact h
        have := placeT_pos (toks_pos s) hl (traceAt (toksR s) 200 0)
        exact .inr ⟨by dsimp only; omega, rfl, this.1, this.2⟩
      · rw [if_neg hq]
        refine .inl ⟨rfl, rfl, ?_⟩
        unfold traceOk
        rw [if_neg hq, if_pos (List.all_eq_true.2 g1)]
  · rw [if_neg he]
    rcases errR_cases s with h | ⟨h1, _, k, hk, hp⟩
    · exact absurd h he
    · have := posS_le s k (by omega)
      exact .inr ⟨he, rfl, by dsimp only; rw [hp]; omega, by dsimp only; rw [hp]; omega⟩
/-! how long a trace's text can be that is read of a text -/
def ln (l : List Tok) (i : Nat) : Nat := lens (l.take i)
theorem ln_succ {l : List Tok} {i : Nat} (h : i < l.length) : ln l (i + 1) = ln l i + l[i].t.length := by
  unfold ln lens; rw [← List.take_append_getElem h, List.map_append, List.sum_append]; simp
theorem ln_le (l : List Tok) (i : Nat) : ln l i ≤ lens l := by
  unfold ln lens
  conv => rhs; rw [← List.take_append_drop i l]
  rw [List.map_append, List.sum_append]; omega
theorem parse_len {t : Bs} {v : Val} (h : parseS t = some v) : (textV v).length ≤ t.length := by rw [(parse_some h).2]; exact Nat.le_refl _
theorem dec_len (u : Nat) : 1 ≤ (Lib.decDigits u).length := by
  obtain ⟨c, r, e, _⟩ := dec_cons u; rw [e]; simp
theorem number_len {t : Bs} {v : Val} (h : numberS t = some v) : (textV v).length ≤ t.length := by
  unfold numberS at h
  have hrl : (numRest t).length + (if hasP t [45] then 1 else 0) = t.length := by
    unfold numRest
    split
    · rename_i hp
      have := hasP_len hp
      rw [List.length_drop]; simp only [List.length_cons, List.length_nil] at this; omega
    · rfl
  split at h
  · cases h
  · rename_i h0
    split at h
    · cases h
      have : numRest t ≠ [] := fun e => h0 (.inl e)
      have := List.length_pos_iff.2 this
      have e : textV ⟨1, 0, []⟩ = [48] := by decide +kernel
      rw [e]; simp only [List.length_cons, List.length_nil]; omega
    · have ht : (trim0 (numRest t)).length ≤ (numRest t).length := by unfold trim0; exact (List.dropWhile_suffix _).length_le
      have := parse_len h
      split at this
      · rename_i hp; rw [if_pos hp] at hrl; simp only [List.length_cons] at this; omega
      · omega
theorem value_len {x : KT} {t : Trm} (h : valueS x = some t) : (termT t).length ≤ x.2.length := by
  unfold valueS at h
  split at h
  · split at h
    · rename_i hv
      cases h
      unfold termT; rw [if_neg (varS_ne hv)]; exact Nat.le_refl _
    · cases h
  · split at h
    · rw [Option.map_eq_some_iff] at h
      obtain ⟨v, h, rfl⟩ := h
      unfold termT; rw [if_pos rfl]; exact number_len h
    · split at h
      · rename_i v hv
        split at h
        · cases h
          unfold termT; rw [if_pos rfl]; exact parse_len hv
        · cases h
      · cases h
namespace Rd
theorem cur_get {r : Rd} {x : KT} (h : r.cur = some x) : ∃ hi : r.i < r.l.length, kt r.l[r.i] = x := by
  have hi := cur_lt h
  unfold cur at h
  rw [List.getElem?_eq_getElem hi] at h
  exact ⟨hi, by simpa using h⟩
theorem term_ln {r : Rd} (h : r.term.2.isOpen = true) : ln r.l r.i + (termT r.term.1).length ≤ ln r.l r.term.2.i := by
  obtain ⟨h1, h2, h3, h4⟩ := term_open h
  rw [h3]
  show _ ≤ ln r.l (r.i + 1)
  rw [ln_succ h4]
  unfold term at h ⊢
  rw [if_pos h1] at h ⊢
  split at h
  · rename_i t ht
    rw [Option.bind_eq_some_iff] at ht
    obtain ⟨x, hx, hv⟩ := ht
    obtain ⟨hi, e⟩ := cur_get hx
    have := value_len hv
    rw [← e] at this
    have : (termT t).length ≤ r.l[r.i].t.length := this
    show ln r.l r.i + (termT t).length ≤ _
    omega
  · simp [fail, isOpen] at h
theorem name_ln {r : Rd} (h : r.name.2.isOpen = true) : ln r.l r.i + r.name.1.length ≤ ln r.l r.name.2.i := by
  obtain ⟨h1, h2, h3, h4⟩ := name_open h
  rw [h3]
  show _ ≤ ln r.l (r.i + 1)
  rw [ln_succ h4]
  unfold name at h ⊢
  rw [if_pos h1] at h ⊢
  split at h
  · rename_i x hx
    obtain ⟨hi, e⟩ := cur_get hx
    split at h
    · rename_i hc
      rw [if_pos hc]
      have : x.2 = r.l[r.i].t := by rw [← e]
      show ln r.l r.i + x.2.length ≤ _
      rw [this]; omega
    · simp [fail, isOpen] at h
  · simp [fail, isOpen] at h
theorem see_ln {r : Rd} {k : Int} {t : Bs} (h : r.see k t = true) : ln r.l (r.i + 1) = ln r.l r.i + t.length := by
  obtain ⟨hi, e⟩ := cur_get (see_open h).2
  rw [ln_succ hi]
  have : r.l[r.i].t = t := congrArg Prod.snd e
  rw [this]
theorem want_ln {r : Rd} {k : Int} {t : Bs} (h : (r.want k t).isOpen = true) : ln r.l (r.want k t).i = ln r.l r.i + t.length := by
  unfold want at h ⊢
  split at h
  · rename_i hs; rw [if_pos hs]; exact see_ln hs
  · split at h
    · simp [fail, isOpen] at h
    · rename_i ho; exact absurd h ho
theorem args_ln : ∀ (f : Nat) (r : Rd), ((args f r).2.want 5 [41]).isOpen = true → 2 * ln r.l r.i + (weaveK (tailK (args f r).1)).length + 1 ≤ 2 * ln r.l ((args f r).2.want 5 [41]).i
  | 0, r, h => by
    have := want_ln h
    simp only [args, tailK, weaveK, List.length_append, List.length_cons, List.length_nil] at this ⊢; omega
  | f + 1, r, h => by
    unfold args at h ⊢
    split at h
    · rename_i hs
      rw [if_pos hs]
      dsimp only at h ⊢
      have ih := args_ln f _ h
      have hta := (args_open f _ (want_open h).1).1
      have ht := term_ln hta
      have h1 := see_ln hs
      have hl := (term_l r.step).1
      have hl2 : r.step.l = r.l := rfl
      rw [hl, hl2] at ih
      rw [hl2] at ht
      have h2 : ln r.l r.step.i = ln r.l (r.i + 1) := rfl
      simp only [tailK, weaveK, termK_T, List.length_append, List.length_cons, List.length_nil] at h1 ⊢
      omega
    · rename_i hs
      rw [if_neg hs]
      have := want_ln h
      simp only [tailK, weaveK, List.length_append, List.length_cons, List.length_nil] at this ⊢; omega
theorem weave_take5 : ∀ (l : List Trm) (n : Nat), (weaveK (tailK (l.take n))).length ≤ (weaveK (tailK l)).length
  | l, 0 => by
    cases l <;> simp [tailK, weaveK]
  | [], n + 1 => by simp
  | t :: r, n + 1 => by
    have := weave_take5 r n
    simp only [List.take_succ_cons, tailK, weaveK, List.length_append] at this ⊢; omega
theorem atom_ln {r : Rd} (h : r.atom.2.isOpen = true) : 2 * ln r.l r.i + (atomT r.atom.1).length ≤ 2 * ln r.l r.atom.2.i := by
  cases hs : r.name.2.see 5 [40] with
  | false =>
    rw [atom_no hs] at h ⊢
    have := name_ln h
    rw [atomT_nil rfl]; dsimp only; omega
  | true =>
    rw [atom_yes hs] at h ⊢
    have hno := (see_open hs).1
    have h1 := name_ln hno
    have hl := (name_l r).1
    have hl1 := (term_l r.name.2.step).1
    have hw : ((args r.name.2.l.length r.name.2.step.term.2).2.want 5 [41]).isOpen = true := by
      split at h
      · exact h
      · exact h
    have h2 := args_ln _ _ hw
    have h3 := term_ln (args_open _ _ (want_open hw).1).1
    have h4 := see_ln hs
    have e1 : r.name.2.step.l = r.l := hl
    rw [hl1, e1] at h2
    rw [e1] at h3
    rw [hl] at h4
    have h5 := weave_take5 (args r.name.2.l.length r.name.2.step.term.2).1 4
    have e2 : ln r.l r.name.2.step.i = ln r.l (r.name.2.i + 1) := rfl
    have key : 2 * ln r.l r.i + (atomT ⟨r.name.1, (r.name.2.step.term.1 :: (args r.name.2.l.length r.name.2.step.term.2).1).take 5⟩).length ≤ 2 * ln r.l ((args r.name.2.l.length r.name.2.step.term.2).2.want 5 [41]).i := by
      unfold atomT atomK argsK
      simp only [List.take_succ_cons, weaveK, termK_T, List.length_append, List.length_cons, List.length_nil] at h4 ⊢
      omega
    dsimp only
    split <;> exact key
end Rd
theorem event_ln {l : List Tok} {i : Nat} (h : (eventS l i).2.2 = 0) : 2 * ln l i + (factT (eventS l i).1).length + 2 ≤ 2 * ln l (eventS l i).2.1 := by
  unfold eventS at *
  dsimp only at h ⊢
  by_cases h0 : (readA l i).2.2 = 0
  · rw [if_neg (by omega)] at h ⊢
    cases hf : free (readA l i).1 with
    | false => rw [hf, if_pos rfl] at h; cases h
    | true =>
      rw [hf, if_neg (by simp)] at h
      rw [if_neg (by simp)]
      cases hg : l[(readA l i).2.1]? with
      | none => rw [hg] at h; cases h
      | some t =>
        rw [hg] at h
        dsimp only at h ⊢
        obtain ⟨hlt, hte⟩ := List.getElem?_eq_some_iff.1 hg
        split at h
        · rename_i ht
          rw [if_pos ht]
          dsimp only
          rw [ln_succ hlt, hte, ht.2]
          have e : factT (readA l i).1.gr = atomT (readA l i).1 := by unfold factT; rw [gr_at hf]
          rw [e]
          have key : 2 * ln l i + (atomT (readA l i).1).length ≤ 2 * ln l (readA l i).2.1 := by
            unfold readA at h0 ⊢
            dsimp only at h0 ⊢
            obtain ⟨h1, h2, h3⟩ := endE_0 h0
            rw [if_pos h0, h3]
            exact Rd.atom_ln h1
          simp only [List.length_cons, List.length_nil]; omega
        · cases h
  · rw [if_pos h0] at h; cases h
theorem traceGo_ln (l : List Tok) : ∀ (f i : Nat), 2 * ln l i + (traceT (traceGo l f i).1).length ≤ 2 * lens l
  | 0, i => by
    have := ln_le l i
    simp only [traceGo, traceT, List.flatMap_nil, List.length_nil]; omega
  | f + 1, i => by
    have := ln_le l i
    rw [traceGo]
    split
    · dsimp only
      split
      · rename_i h0
        have h1 := event_ln h0
        have h2 := traceGo_ln l f (eventS l i).2.1
        simp only [traceT, List.flatMap_cons, List.length_append, List.length_cons, List.length_nil] at h2 ⊢
        omega
      · simp only [traceT, List.flatMap_nil, List.length_nil]; omega
    · simp only [traceT, List.flatMap_nil, List.length_nil]; omega
/-- what is read of a text is no longer than twice as long -/
theorem parseT_len (s : Bs) : (traceT (parseT s).1).length ≤ 2 * s.length := by
  have h1 := chain_lens (chain_R s) (Nat.zero_le _)
  have h2 := traceGo_ln (toksR s) (toksR s).length 0
  have z : (traceT []).length = 0 := rfl
  unfold parseT
  by_cases he : errR s = 0
  · rw [if_pos he]
    dsimp only
    cases (traceGo (toksR s) (toksR s).length 0).2 with
    | some n => dsimp only; rw [z]; exact Nat.zero_le _
    | none =>
      dsimp only
      split
      · dsimp only; rw [z]; exact Nat.zero_le _
      · dsimp only; omega
  · rw [if_neg he]; dsimp only; rw [z]; exact Nat.zero_le _
end Go.PV
namespace Go.PV
open Go
/-! law 14: one event too many -/
theorem traceAt_pre : ∀ (x y : List Fct) (l : List Tok) (b : Bs) (i : Nat), x.all factOk = true → (l.drop i).map kt = (traceK b (x ++ y)).map (·.2) → traceAt l x.length i = i + (traceK b x).length
  | [], y, l, b, i, _, _ => rfl
  | g :: r, y, l, b, i, hk, hr => by
    rw [List.all_cons, Bool.and_eq_true] at hk
    have hr2 : (l.drop i).map kt = (atomK b g.at).map (·.2) ++ (5, [46]) :: (traceK [10] (r ++ y)).map (·.2) := by rw [hr, List.cons_append, traceK]; simp
    have e := eventS_back hk.1 hr2
    have hr3 : (l.drop (i + (atomK b g.at).length + 1)).map kt = (traceK [10] (r ++ y)).map (·.2) := by
      have := rest_add (x := (atomK b g.at).map (·.2) ++ [(5, [46])]) (m := (traceK [10] (r ++ y)).map (·.2)) (by rw [hr2]; simp)
      simpa [Nat.add_assoc] using this
    have ih := traceAt_pre r y l [10] _ hk.2 hr3
    rw [List.length_cons, traceAt, e]
    dsimp only
    rw [ih, traceK, List.length_append, List.length_cons]; omega
theorem traceK_app : ∀ (x y : List Fct) (b : Bs), x ≠ [] → traceK b (x ++ y) = traceK b x ++ traceK [10] y
  | [], _, _, h => absurd rfl h
  | [g], y, b, _ => by simp [traceK]
  | g :: h :: r, y, b, _ => by
    have ih := traceK_app (h :: r) y [10] (by simp)
    have e : traceK b (g :: h :: r) = atomK b g.at ++ ([], (5, [46])) :: traceK [10] (h :: r) := rfl
    rw [List.cons_append, traceK, ih, e]; simp
theorem posL_app (w : Bs) : ∀ (a b : List (Bs × KT)) (i : Nat), posL w i (a ++ b) = posL w i a ++ posL w (i + (weaveK a).length) b
  | [], b, i => by simp [posL, weaveK]
  | (x, t) :: r, b, i => by
    simp only [List.cons_append, posL, weaveK, posL_app w r b, List.length_append]
    rw [Nat.add_assoc, Nat.add_assoc, Nat.add_assoc]
theorem traceT_app (x y : List Fct) : traceT (x ++ y) = traceT x ++ traceT y := List.flatMap_append
/-- where the first event behind some begins -/
theorem place_app {x y : List Fct} (hx : x ≠ []) (hy : y ≠ []) (h : (x ++ y).all factOk = true) : placeT (toksR (traceT (x ++ y))) (traceAt (toksR (traceT (x ++ y))) x.length 0) = posS (traceT x) := by
  obtain ⟨_, h2, h3⟩ := toks_trace h
  have hxo : x.all factOk = true := by rw [List.all_append, Bool.and_eq_true] at h; exact h.1
  have ha := traceAt_pre x y (toksR (traceT (x ++ y))) [] 0 hxo (by rw [List.drop_zero]; exact h2)
  rw [ha, Nat.zero_add, h3, traceK_app x y [] hx, posL_app]
  obtain ⟨g, r, rfl⟩ := List.exists_cons_of_ne_nil hy
  have hl : (posL (traceT (x ++ g :: r)) 0 (traceK [] x)).length = (traceK [] x).length := posL_len _ _ _
  unfold placeT
  rw [List.getElem?_append_right (by rw [hl]; exact Nat.le_refl _), hl, Nat.sub_self]
  have e : ∃ m, traceK [10] (g :: r) = ([10], (1, g.n)) :: m := ⟨_, rfl⟩
  obtain ⟨m, e⟩ := e
  rw [e]
  have hw := weave_trace x [] hx
  have hwl := congrArg List.length hw
  simp only [List.nil_append, List.length_append, List.length_cons, List.length_nil] at hwl
  show posS ((traceT (x ++ g :: r)).take (0 + (weaveK (traceK [] x)).length + 1)) = _
  rw [traceT_app, Nat.zero_add, hwl, List.take_left]
def pF : Fct := ⟨[112], []⟩
def pN (m : Nat) : List Fct := List.replicate m pF
theorem pN_ok (m : Nat) : (pN m).all factOk = true := List.all_eq_true.2 fun x hx => by
  rw [List.eq_of_mem_replicate hx]; decide +kernel
theorem pN_succ (m : Nat) : traceT (pN (m + 1)) = traceT (pN m) ++ [112, 46, 10] := by
  have : pN (m + 1) = pN m ++ [pF] := List.replicate_succ'
  rw [this, traceT_app]; rfl
theorem pN_len (m : Nat) : (traceT (pN m)).length = 3 * m := by
  induction m with
  | zero => rfl
  | succ m ih => rw [pN_succ, List.length_append, ih]; simp only [List.length_cons, List.length_nil]; omega
theorem posS_200 : posS (traceT (pN 200)) = (201, 1) := by decide +kernel
theorem parse_many (n : Nat) (h : 1 ≤ n) : parseT (traceT (pN (200 + n))) = ([], (201, 1), 2) := by
  have e : pN (200 + n) = pN 200 ++ pN n := (List.replicate_append_replicate).symm
  rw [parse_trace (pN_ok _), if_pos (by unfold pN; rw [List.length_replicate]; omega)]
  have hx : pN 200 ≠ [] := by decide
  have hy : pN n ≠ [] := by
    obtain ⟨m, rfl⟩ : ∃ m, n = m + 1 := ⟨n - 1, by omega⟩
    simp [pN, List.replicate_succ]
  have hl : (pN 200).length = 200 := List.length_replicate
  have hp := place_app hx hy (by rw [← e]; exact pN_ok _)
  rw [hl, ← e, posS_200] at hp
  rw [hp]
end Go.PV
namespace Go.PV
open Go Go.Proofs
set_option maxRecDepth 100000
def wA : Bs := [111, 112, 101, 110, 40, 49, 41, 46, 32, 99, 108, 111, 115, 101, 40, 34, 97, 34, 41, 46]
def wB : Bs := [111, 112, 101, 110, 40, 49, 41, 46, 10, 99, 108, 111, 115, 101, 40, 88, 41, 46]
def wF : List Fct := [⟨[111, 112, 101, 110], [⟨1, 1, []⟩]⟩, ⟨[99, 108, 111, 115, 101], [⟨3, 0, [97]⟩]⟩]
theorem wA_p : parseT wA = (wF, (0, 0), 0) := by decide +kernel
theorem wB_p : parseT wB = ([], (2, 1), 7) := by decide +kernel
theorem wF_t : traceE wF = 0 ∧ traceX wF = [111, 112, 101, 110, 40, 49, 41, 46, 10, 99, 108, 111, 115, 101, 40, 34, 97, 34, 41, 46, 10] := by decide +kernel
theorem wF_B : ∀ f ∈ wF, fctB f := fun f hf => factOk_B (by
  have h : wF.all factOk = true := by decide +kernel
  exact List.all_eq_true.1 h f hf)
theorem wakes14_good : Good Tryz.prog 23 [] [] [.bool true] [] := by
  refine good_of hP Tryz.func23 (by kernel_rfl) (lv := [0, 1, 3, 4, 5, 7, 8]) (js := []) ⟨rfl, rfl, rfl, rfl, rfl, rfl, _, rfl, ?_⟩
  conv => whnf
  refine call0 (parseT_good wA (by decide)) ?_
  rw [wA_p]
  conv => whnf
  refine call0 (ttext_good wF (by decide) wF_B) ?_
  rw [wF_t.1, wF_t.2]
  conv => whnf
  refine call0 (parseT_good wB (by decide)) ?_
  rw [wB_p]
  conv => whnf
  refine call0 (tcheck_good [] (Nat.zero_le _) (fun f hf => by cases hf)) ?_
  conv => whnf
  exact fin0 rfl trivial
theorem traceE_0 {l : List Fct} (h : traceE l = 0) : traceOk l = 0 ∧ (traceT l).length ≤ 20000 ∧ traceX l = traceT l := by
  have hx : traceX l = traceT l := by unfold traceX; rw [if_pos h]
  unfold traceE at h
  split at h
  · rename_i h0
    split at h
    · omega
    · exact ⟨h0, by omega, hx⟩
  · rename_i h0; exact absurd h h0
theorem parse_ok {l : List Fct} (h : traceOk l = 0) : parseT (traceT l) = (l, (0, 0), 0) := by
  obtain ⟨h1, h2⟩ := traceOk_0 h
  rw [parse_trace h2, if_neg (by omega)]
theorem traceBack_good (l : List Fct) (s : Bs) (_ : l.length ≤ maxLen) {p : Fct → Prop} (_ : ∀ v ∈ l, p v) (_ : s.length ≤ maxLen) : Good Tryz.prog 4 [.sl 2 (fctV l), .str s] [] [.bool true] [] := by
  refine good_of hP Tryz.func4 (by kernel_rfl) (lv := [0, 1, 4, 5, 6, 7, 8, 9, 10, 11, 12, 13, 14, 15, 17, 24, 31, 50, 58]) (js := [31]) ⟨rfl, rfl, rfl, rfl, rfl, rfl, _, rfl, ?_⟩
  conv => whnf
  refine call0 (many_good l) ?_
  cases hm : fctsH l with
  | true =>
    conv => whnf
    exact fin0 rfl trivial
  | false =>
  obtain ⟨hl, hb⟩ := fctsH_B hm
  conv => whnf
  refine branch_of (fun h => ?_) (fun h => ?_)
  · conv => whnf
    exact fin0 rfl trivial
  have h := of_decide_eq_false h
  have hs : s.length ≤ 2000 := by omega
  conv => whnf
  refine seq_of hP [0, 1, 4, 5, 6, 7, 8, 9, 10, 11, 12, 13, 14, 15, 17, 24, 31, 50, 58] [31] [0, 1] [] [] (fun st => st = ⟨[(0, .sl 2 (fctV l)), (1, .str s)], []⟩) ?_ ?_
  · conv => whnf
    refine call0 (ttext_good l (by omega) hb) ?_
    by_cases he : traceE l = 0
    · obtain ⟨h1, h2, h3⟩ := traceE_0 he
      rw [he, h3]
      conv => whnf
      refine call0 (parseT_good (traceT l) h2) ?_
      rw [parse_ok h1]
      conv => whnf
      refine ⟨_, (eqPos (0, 0) (0, 0)).2, ?_⟩
      rw [decide_eq_true rfl]
      conv => whnf
      refine call0 (keepFacts_good l l (by omega) (fun f hf => (hb f hf).2.1)) ?_
      rw [decide_eq_true rfl]
      conv => whnf
    · conv => whnf
      refine branch_of (fun h4 => ?_) (fun h4 => ?_)
      · exact absurd (of_decide_eq_true h4) he
      · conv => whnf
  rintro st rfl
  conv => whnf
  refine call0 (parseT_good s (by omega)) ?_
  have hln := parseT_len s
  rcases parseT_cases s with ⟨h1, h2, h3⟩ | ⟨h1, h2, h3, h4⟩
  · obtain ⟨k1, k2⟩ := traceOk_0 h3
    have hkb : ∀ f ∈ (parseT s).1, fctB f := fun f hf => factOk_B (List.all_eq_true.1 k2 f hf)
    rw [h1]
    generalize (parseT s).1 = k at *
    have he : traceE k = 0 := by unfold traceE; rw [if_pos h3, if_neg (by omega)]
    have hx : traceX k = traceT k := by unfold traceX; rw [if_pos he]
    conv => whnf
    refine call0 (ttext_good k (by omega) hkb) ?_
    rw [he, hx]
    conv => whnf
    refine call0 (parseT_good (traceT k) (by omega)) ?_
    rw [parse_ok h3]
    conv => whnf
    refine call0 (tcheck_good k (by omega) hkb) ?_
    rw [h3]
    conv => whnf
    refine call0 (keepFacts_good k k (by omega) (fun f hf => (hkb f hf).2.1)) ?_
    rw [decide_eq_true rfl]
    conv => whnf
    refine call0 (wakes14_good) ?_
    conv => whnf
    exact fin0 rfl trivial
  · rw [h2]
    conv => whnf
    refine branch_of (fun h5 => ?_) (fun h5 => ?_)
    · conv => whnf
      refine branch_of (fun h6 => ?_) (fun h6 => ?_)
      · conv => whnf
        refine branch_of (fun h7 => ?_) (fun h7 => ?_)
        · conv => whnf
          refine call0 (wakes14_good) ?_
          conv => whnf
          exact fin0 rfl trivial
        · exact absurd h4 (of_decide_eq_false h7)
      · exact absurd h3 (of_decide_eq_false h6)
    · rw [Bool.not_eq_false'] at h5
      exact absurd (of_decide_eq_true h5) h1
end Go.PV
namespace Go.PV
open Go Go.Proofs
set_option maxRecDepth 100000
theorem traceJoin_good (a b : List Fct) (n : Int) (_ : a.length ≤ maxLen) {p : Fct → Prop} (_ : ∀ v ∈ a, p v) (_ : b.length ≤ maxLen) {q : Fct → Prop} (_ : ∀ v ∈ b, q v) (_ : (Lit.int .i64 n).wf = true) : Good Tryz.prog 5 [.sl 2 (fctV a), .sl 2 (fctV b), .int .i64 n] [] [.bool true] [] := by
  refine good_of hP Tryz.func5 (by kernel_rfl) (lv := [0, 1, 2, 6, 7, 8, 9, 10, 11, 13, 14, 15, 17, 18, 32, 56, 76, 85]) (js := []) ⟨rfl, rfl, rfl, rfl, rfl, rfl, _, rfl, ?_⟩
  obtain ⟨m, hm, hw⟩ := modk (m := 20) (by omega) (by omega) n
  conv => whnf
  refine call0 (many_good a) ?_
  cases hma : fctsH a with
  | true =>
    conv => whnf
    exact fin0 rfl trivial
  | false =>
  obtain ⟨hal, hab⟩ := fctsH_B hma
  conv => whnf
  refine call0 (many_good b) ?_
  cases hmb : fctsH b with
  | true =>
    conv => whnf
    exact fin0 rfl trivial
  | false =>
  obtain ⟨hbl, hbb⟩ := fctsH_B hmb
  conv => whnf
  refine branch_of (fun h => ?_) (fun h => ?_)
  · conv => whnf
    exact fin0 rfl trivial
  have h := of_decide_eq_false h
  rw [List.length_map, List.length_map, wr (by omega) (by omega)] at h
  conv => whnf
  refine call0 (ttext_good a (by omega) hab) ?_
  conv => whnf
  refine call0 (ttext_good b (by omega) hbb) ?_
  conv => whnf
  refine branch_of (fun h1 => ?_) (fun h1 => ?_)
  · conv => whnf
    refine call0 (wakes14_good) ?_
    conv => whnf
    exact fin0 rfl trivial
  rw [Bool.not_eq_false'] at h1
  obtain ⟨a1, a2, a3⟩ := traceE_0 (of_decide_eq_true h1)
  conv => whnf
  refine branch_of (fun h2 => ?_) (fun h2 => ?_)
  · conv => whnf
    refine call0 (wakes14_good) ?_
    conv => whnf
    exact fin0 rfl trivial
  rw [Bool.not_eq_false'] at h2
  obtain ⟨b1, b2, b3⟩ := traceE_0 (of_decide_eq_true h2)
  rw [a3, b3]
  conv => whnf
  refine branch_of (fun h3 => ?_) (fun h3 => ?_)
  · conv => whnf
    refine call0 (wakes14_good) ?_
    conv => whnf
    exact fin0 rfl trivial
  have h3 := of_decide_eq_false h3
  rw [wr (by omega) (by omega)] at h3
  have hsum : (traceT a ++ traceT b).length ≤ 20000 := by rw [List.length_append]; omega
  have hok : traceOk (a ++ b) = 0 := by
    obtain ⟨_, c2⟩ := traceOk_0 a1
    obtain ⟨_, d2⟩ := traceOk_0 b1
    unfold traceOk
    rw [if_neg (by rw [List.length_append]; omega), List.all_append, c2, d2]; rfl
  have hp := parse_ok hok
  rw [traceT_app] at hp
  conv => whnf
  refine ⟨⟨⟩, by dsimp only; rw [List.length_append] at hsum; omega, ?_⟩
  conv => whnf
  refine call0 (parseT_good (traceT a ++ traceT b) hsum) ?_
  rw [hp]
  conv => whnf
  refine call0 (twinFacts_good a (by omega) (fun f hf => (hab f hf).2.1)) ?_
  conv => whnf
  refine ⟨⟨⟩, by dsimp only; rw [List.length_map, List.length_map]; omega, ?_⟩
  conv => whnf
  refine call0 (keepFacts_good (a ++ b) (a ++ b) (by rw [List.length_append]; omega) (fun f hf => by
    rcases List.mem_append.1 hf with hf | hf
    · exact (hab f hf).2.1
    · exact (hbb f hf).2.1)) ?_ (by rw [show fctV (a ++ b) = fctV a ++ fctV b from List.map_append]; rfl)
  rw [decide_eq_true rfl]
  conv => whnf
  refine ⟨⟨⟩, by decide, ?_⟩
  conv => whnf
  rw [hw]
  have hw2 : IntKind.i64.wrap (1 + (m : Int)) = (m + 1 : Nat) := by rw [wr (by omega) (by omega)]; omega
  conv => whnf
  rw [hw2]
  refine loop_of hP [0, 1, 2, 6, 7, 8, 9, 10, 11, 13, 14, 15, 17, 18, 32, 56, 76, 85] [] [2, 14, 15] [] [] (fun k st => ∃ i : Nat, k = 200 + (m + 1) - i ∧ i ≤ 200 + (m + 1) ∧ st = ⟨[(2, .int .i64 (m + 1 : Nat)), (14, .str (traceT (pN i))), (15, .int .i64 i)], []⟩) (200 + (m + 1)) ?_ ?_
  · conv => whnf
    exact ⟨0, rfl, Nat.zero_le _, rfl⟩
  · rintro k st ⟨i, rfl, hi, rfl⟩
    have hw3 : IntKind.i64.wrap (200 + ((m + 1 : Nat) : Int)) = (200 + (m + 1) : Nat) := by rw [wr (by omega) (by omega)]; omega
    have hpl := pN_len i
    conv => whnf
    rw [hw3]
    refine branch_of (fun h4 => ?_) (fun h4 => ?_)
    · have h4 := of_decide_eq_true h4
      conv => whnf
      refine ⟨⟨⟩, by dsimp only; simp only [List.length_cons, List.length_nil]; omega, ?_⟩
      conv => whnf
      refine ⟨200 + (m + 1) - (i + 1), by omega, i + 1, rfl, by omega, ?_⟩
      rw [wr (by omega) (by omega), pN_succ]
      rfl
    · have h4 := of_decide_eq_false h4
      have : i = 200 + (m + 1) := by omega
      subst this
      have hpm := parse_many (m + 1) (by omega)
      conv => whnf
      refine call0 (parseT_good (traceT (pN (200 + (m + 1)))) (by omega)) ?_
      rw [hpm]
      conv => whnf
      refine call0 (wakes14_good) ?_
      conv => whnf
      exact fin0 rfl trivial
end Go.PV
namespace Go.PV
open Go Go.Proofs
set_option maxRecDepth 100000
theorem rtrace_good (l : List Fct) (hl : l.length ≤ 1000000) (hb : ∀ f ∈ l, fctB f) : Good Tryz.prog 21 [.sl 2 (fctV l)] [] [.int .i64 (traceOk l)] [] := by
  refine good_of hP Tryz.func21 (by kernel_rfl) (lv := [0, 2, 3, 6, 10, 18]) (js := []) ⟨rfl, rfl, rfl, rfl, rfl, rfl, _, rfl, ?_⟩
  unfold traceOk
  conv => whnf
  refine branch_of (fun h => ?_) (fun h => ?_)
  · have h := of_decide_eq_true h
    rw [List.length_map] at h
    rw [if_pos (by omega)]
    conv => whnf
    exact fin0 rfl trivial
  have h := of_decide_eq_false h
  rw [List.length_map] at h
  rw [if_neg (by omega)]
  conv => whnf
  refine loop_of hP [0, 2, 3, 6, 10, 18] [] [0, 2, 3] [] [] (fun m st => ∃ k : Nat, m = l.length - k ∧ k ≤ l.length ∧ l.all factOk = (l.drop k).all factOk ∧ st = ⟨[(0, .sl 2 (fctV l)), (2, .int .i64 0), (3, .int .i64 k)], []⟩) l.length ?_ ?_
  · conv => whnf
    exact ⟨0, rfl, Nat.zero_le _, rfl, rfl⟩
  · rintro m st ⟨k, rfl, hk, he, rfl⟩
    conv => whnf
    refine branch_of (fun g => ?_) (fun g => ?_)
    · have g := of_decide_eq_true g
      rw [List.length_map] at g
      have hk' : k < l.length := by omega
      rw [List.drop_eq_getElem_cons hk', List.all_cons] at he
      conv => whnf
      refine ⟨Fct.c l[k], idxM hk' rfl, ?_⟩
      conv => whnf
      obtain ⟨b1, b2, b3⟩ := hb _ (List.getElem_mem hk')
      refine call0 (refFact_good l[k] b1 b3) ?_
      cases ht : factOk l[k] with
      | false =>
        rw [ht, Bool.false_and] at he
        rw [he]
        conv => whnf
        exact fin0 rfl trivial
      | true =>
        rw [ht, Bool.true_and] at he
        conv => whnf
        refine ⟨l.length - (k + 1), by omega, k + 1, rfl, by omega, he, ?_⟩
        rw [wr (by omega) (by omega)]; rfl
    · have g := of_decide_eq_false g
      rw [List.length_map] at g
      have hd : l.drop k = [] := List.drop_eq_nil_iff.2 (by omega)
      rw [hd] at he
      rw [he]
      conv => whnf
      exact fin0 rfl trivial
theorem rttext_good (l : List Fct) (h : traceOk l = 0) : Good Tryz.prog 24 [.sl 2 (fctV l)] [] [.str (traceX l), .int .i64 (traceE l)] [] := by
  obtain ⟨h1, h2⟩ := traceOk_0 h
  refine good_of hP Tryz.func24 (by kernel_rfl) (lv := [0, 2, 3, 4, 5, 9, 22]) (js := []) ⟨rfl, rfl, rfl, rfl, rfl, rfl, _, rfl, ?_⟩
  conv => whnf
  refine loop_of hP [0, 2, 3, 4, 5, 9, 22] [] [0, 2, 3, 4, 5] [] [] (fun m st => ∃ k : Nat, m = l.length - k ∧ k ≤ l.length ∧ st = ⟨[(0, .sl 2 (fctV l)), (2, .str []), (3, .int .i64 0), (4, .str (traceT (l.take k))), (5, .int .i64 k)], []⟩) l.length ?_ ?_
  · conv => whnf
    exact ⟨0, rfl, Nat.zero_le _, rfl⟩
  · rintro m st ⟨k, rfl, hk, rfl⟩
    have hal : (traceT (l.take k)).length ≤ 702 * (l.take k).length := traceT_len (List.all_eq_true.2 fun f hf => List.all_eq_true.1 h2 f (List.mem_of_mem_take hf))
    rw [List.length_take] at hal
    conv => whnf
    refine branch_of (fun g => ?_) (fun g => ?_)
    · have g := of_decide_eq_true g
      rw [List.length_map] at g
      have hk' : k < l.length := by omega
      have hck : factOk l[k] = true := List.all_eq_true.1 h2 _ (List.getElem_mem hk')
      have hfl := factT_len hck
      have hw : IntKind.i64.wrap ((k : Int) + 1) = ((k + 1 : Nat) : Int) := by rw [wr (by omega) (by omega)]; rfl
      have hsn : traceT (l.take (k + 1)) = traceT (l.take k) ++ (factT l[k] ++ [46, 10]) := flatMap_snoc' _ l hk'
      conv => whnf
      refine ⟨Fct.c l[k], idxM hk' rfl, ?_⟩
      conv => whnf
      refine call0 (refFText_good l[k] hck) ?_
      conv => whnf
      refine ⟨⟨⟩, by dsimp only; omega, ?_⟩
      conv => whnf
      refine ⟨⟨⟩, by simp only [List.length_append, List.length_cons, List.length_nil]; omega, ?_⟩
      conv => whnf
      refine ⟨l.length - (k + 1), by omega, k + 1, rfl, by omega, ?_⟩
      rw [hsn, hw, ← List.append_assoc]
    · have g := of_decide_eq_false g
      rw [List.length_map] at g
      have e : l.take k = l := List.take_of_length_le (by omega)
      rw [e] at hal ⊢
      unfold traceX traceE
      rw [if_pos h]
      conv => whnf
      refine branch_of (fun g2 => ?_) (fun g2 => ?_)
      · have g2 := of_decide_eq_true g2
        rw [if_pos (show 20000 < (traceT l).length by omega), if_neg (by omega)]
        conv => whnf
        exact fin0 rfl trivial
      · have g2 := of_decide_eq_false g2
        rw [if_neg (show ¬ 20000 < (traceT l).length by omega), if_pos rfl]
        conv => whnf
        exact fin0 rfl trivial
end Go.PV
namespace Go.PV
open Go Go.Proofs
set_option maxRecDepth 100000
theorem traceExact_good (l : List Fct) (s : Bs) (_ : l.length ≤ maxLen) {p : Fct → Prop} (_ : ∀ v ∈ l, p v) (_ : s.length ≤ maxLen) : Good Tryz.prog 3 [.sl 2 (fctV l), .str s] [] [.bool true] [] := by
  refine good_of hP Tryz.func3 (by kernel_rfl) (lv := [0, 1, 4, 5, 6, 7, 8, 9, 10, 11, 12, 13, 14, 15, 16, 23, 62, 66]) (js := []) ⟨rfl, rfl, rfl, rfl, rfl, rfl, _, rfl, ?_⟩
  conv => whnf
  refine call0 (many_good l) ?_
  cases hm : fctsH l with
  | true =>
    conv => whnf
    exact fin0 rfl trivial
  | false =>
  obtain ⟨hl, hb⟩ := fctsH_B hm
  have hb2 : ∀ f ∈ l, f.a.length ≤ 1000000 := fun f hf => (hb f hf).2.1
  conv => whnf
  refine branch_of (fun h => ?_) (fun h => ?_)
  · conv => whnf
    exact fin0 rfl trivial
  have h := of_decide_eq_false h
  conv => whnf
  refine call0 (twinFacts_good l (by omega) hb2) ?_
  conv => whnf
  refine call0 (ttext_good l (by omega) hb) ?_
  conv => whnf
  refine call0 (parseT_good s (by omega)) ?_
  conv => whnf
  refine call0 (rparse_good s (by omega)) ?_
  conv => whnf
  have hpl : (parseT s).1.length ≤ 1000000 ∧ ∀ f ∈ (parseT s).1, f.a.length ≤ 1000000 := by
    rcases parseT_cases s with ⟨h1, h2, h3⟩ | ⟨h1, h2, h3, h4⟩
    · obtain ⟨k1, k2⟩ := traceOk_0 h3
      exact ⟨by omega, fun f hf => (factOk_B (List.all_eq_true.1 k2 f hf)).2.1⟩
    · rw [h2]; exact ⟨by simp, fun f hf => by cases hf⟩
  generalize parseT s = z at *
  refine call0 (keepFacts_good z.1 z.1 hpl.1 hpl.2) ?_
  rw [decide_eq_true rfl]
  conv => whnf
  refine ⟨_, (eqPos z.2.1 z.2.1).2, ?_⟩
  rw [decide_eq_true rfl]
  conv => whnf
  refine branch_of (fun h2 => ?_) (fun h2 => ?_)
  · rw [Bool.not_eq_true'] at h2
    exact absurd rfl (of_decide_eq_false h2)
  conv => whnf
  refine call0 (keepFacts_good l l (by omega) hb2) ?_
  rw [decide_eq_true rfl]
  conv => whnf
  refine call0 (rtrace_good l (by omega) hb) ?_
  conv => whnf
  refine branch_of (fun h3 => ?_) (fun h3 => ?_)
  · rw [Bool.not_eq_true'] at h3
    have h3 := of_decide_eq_false h3
    conv => whnf
    refine call0 (tcheck_good l (by omega) hb) ?_
    have e1 : traceE l = traceOk l := by unfold traceE; rw [if_neg h3]
    have e2 : traceX l = [] := by unfold traceX; rw [if_neg (by rw [e1]; exact h3)]
    rw [e1, e2]
    conv => whnf
    refine branch_of (fun h4 => ?_) (fun h4 => ?_)
    · conv => whnf
      refine branch_of (fun h5 => ?_) (fun h5 => ?_)
      · conv => whnf
        refine call0 (wakes14_good) ?_
        conv => whnf
        exact fin0 rfl trivial
      · exact absurd rfl (of_decide_eq_false h5)
    · exact absurd rfl (of_decide_eq_false h4)
  rw [Bool.not_eq_false'] at h3
  have h3 := of_decide_eq_true h3
  conv => whnf
  refine call0 (rttext_good l h3) ?_
  conv => whnf
  refine call0 (tcheck_good l (by omega) hb) ?_
  rw [h3]
  conv => whnf
  refine branch_of (fun h4 => ?_) (fun h4 => ?_)
  · conv => whnf
    refine branch_of (fun h5 => ?_) (fun h5 => ?_)
    · conv => whnf
      refine call0 (wakes14_good) ?_
      conv => whnf
      exact fin0 rfl trivial
    · exact absurd rfl (of_decide_eq_false h5)
  · exact absurd rfl (of_decide_eq_false h4)
end Go.PV
namespace Go.PV
open Go
/-! law 14: a line ahead of a text -/
def upP (p : Int × Int) : Int × Int := (p.1 + 1, p.2)
def upT (t : Tok) : Tok := ⟨t.k, t.t, upP t.p⟩
theorem kt_up (t : Tok) : kt (upT t) = kt t := rfl
namespace Rd
def mv (pre : List Tok) (r : Rd) : Rd := ⟨pre ++ r.l.map upT, pre.length + r.i, r.bad, r.over, r.wrong⟩
variable (pre : List Tok)
theorem mv_cur (r : Rd) : (r.mv pre).cur = r.cur := by
  unfold cur mv
  dsimp only
  rw [List.getElem?_append_right (by omega), Nat.add_sub_cancel_left, List.getElem?_map]
  cases r.l[r.i]? <;> rfl
theorem mv_open (r : Rd) : (r.mv pre).isOpen = r.isOpen := rfl
theorem mv_step (r : Rd) : (r.mv pre).step = r.step.mv pre := rfl
theorem mv_fail (r : Rd) : (r.mv pre).fail = r.fail.mv pre := rfl
theorem mv_see (r : Rd) (k : Int) (t : Bs) : (r.mv pre).see k t = r.see k t := by unfold see; rw [mv_cur, mv_open]
theorem mv_want (r : Rd) (k : Int) (t : Bs) : (r.mv pre).want k t = (r.want k t).mv pre := by
  unfold want
  rw [mv_see, mv_open, mv_step, mv_fail]
  split
  · rfl
  · split <;> rfl
theorem mv_name (r : Rd) : (r.mv pre).name = (r.name.1, r.name.2.mv pre) := by
  unfold name
  rw [mv_cur, mv_open, mv_step, mv_fail]
  split
  · split
    · split <;> rfl
    · rfl
  · rfl
theorem mv_term (r : Rd) : (r.mv pre).term = (r.term.1, r.term.2.mv pre) := by
  unfold term
  rw [mv_cur, mv_open, mv_step, mv_fail]
  split
  · split <;> rfl
  · rfl
theorem mv_args : ∀ (f : Nat) (r : Rd), args f (r.mv pre) = ((args f r).1, (args f r).2.mv pre)
  | 0, r => rfl
  | f + 1, r => by
    rw [args, args, mv_see, mv_step, mv_term]
    dsimp only
    rw [mv_args f]
    split <;> rfl
theorem args_fuel : ∀ (f f' : Nat) (r : Rd), r.l.length ≤ f + r.i → r.l.length ≤ f' + r.i → args f r = args f' r := by
  have no : ∀ {r : Rd}, r.l.length ≤ r.i → r.see 5 [44] = false := fun {r} h => by
    cases hs : r.see 5 [44] with
    | false => rfl
    | true => have := cur_lt (see_open hs).2; omega
  intro f
  induction f with
  | zero =>
    intro f' r h _
    have := no (r := r) (by omega)
    cases f' with
    | zero => rfl
    | succ f' => rw [args, args, this]; rfl
  | succ f ih =>
    intro f' r h h'
    cases f' with
    | zero =>
      have := no (r := r) (by omega)
      rw [args, args, this]; rfl
    | succ f' =>
      have h1 := term_l r.step
      have e : r.step.l = r.l := rfl
      have e2 : r.step.i = r.i + 1 := rfl
      rw [args, args, ih f' r.step.term.2 (by rw [h1.1, e]; omega) (by rw [h1.1, e]; omega)]
theorem mv_brack (r : Rd) : (r.mv pre).brack = (r.brack.1, r.brack.2.mv pre) := by
  unfold brack
  dsimp only
  have h1 := term_l r.step
  have e : r.step.l = r.l := rfl
  rw [mv_step, mv_term]
  dsimp only
  have hl : (r.mv pre).l.length = pre.length + r.l.length := by simp [mv]
  rw [mv_args, hl, args_fuel (pre.length + r.l.length) r.l.length r.step.term.2 (by rw [h1.1, e]; omega) (by rw [h1.1, e]; omega), mv_want]
theorem mv_atom (r : Rd) : (r.mv pre).atom = (r.atom.1, r.atom.2.mv pre) := by
  unfold atom
  dsimp only
  rw [mv_name]
  dsimp only
  rw [mv_see, mv_brack]
  split
  · dsimp only
    split <;> rfl
  · rfl
end Rd
theorem mv_readA (pre l : List Tok) (i : Nat) : readA (pre ++ l.map upT) (pre.length + i) = ((readA l i).1, pre.length + (readA l i).2.1, (readA l i).2.2) := by
  unfold readA
  dsimp only
  have e : rd0 (pre ++ l.map upT) (pre.length + i) = (rd0 l i).mv pre := rfl
  rw [e, Rd.mv_atom]
  generalize (rd0 l i).atom = x
  dsimp only
  have h1 : (x.2.mv pre).endE = x.2.endE := rfl
  rw [h1]
  have h2 : (x.2.mv pre).endI (pre.length + i) = pre.length + x.2.endI i := by
    unfold Rd.endI Rd.mv
    dsimp only
    split
    · simp only [List.length_append, List.length_map]; omega
    · split <;> rfl
  rw [h2]
theorem mv_event (pre l : List Tok) (i : Nat) : eventS (pre ++ l.map upT) (pre.length + i) = ((eventS l i).1, pre.length + (eventS l i).2.1, (eventS l i).2.2) := by
  unfold eventS
  dsimp only
  rw [mv_readA]
  dsimp only
  split
  · rfl
  · split
    · rfl
    · rw [List.getElem?_append_right (by omega), Nat.add_sub_cancel_left, List.getElem?_map]
      cases l[(readA l i).2.1]? with
      | none => rfl
      | some t =>
        simp only [Option.map_some]
        have e : (upT t).k = t.k ∧ (upT t).t = t.t := ⟨rfl, rfl⟩
        rw [e.1, e.2]
        split <;> rfl
theorem mv_go (pre l : List Tok) : ∀ (f i : Nat), traceGo (pre ++ l.map upT) f (pre.length + i) = ((traceGo l f i).1, (traceGo l f i).2.map (pre.length + ·))
  | 0, i => rfl
  | f + 1, i => by
    rw [traceGo, traceGo]
    dsimp only
    rw [mv_event]
    dsimp only
    rw [mv_go pre l f]
    have e : (pre.length + i < (pre ++ l.map upT).length) = (i < l.length) := by simp
    simp only [e]
    split
    · split <;> rfl
    · rfl
theorem go_fuel (l : List Tok) : ∀ (f f' i : Nat), l.length ≤ f + i → l.length ≤ f' + i → traceGo l f i = traceGo l f' i := by
  intro f
  induction f with
  | zero =>
    intro f' i h _
    cases f' with
    | zero => rfl
    | succ f' => rw [traceGo, traceGo, if_neg (by omega)]
  | succ f ih =>
    intro f' i h h'
    cases f' with
    | zero => rw [traceGo, traceGo, if_neg (by omega)]
    | succ f' =>
      rw [traceGo, traceGo]
      dsimp only
      split
      · split
        · rename_i h0
          have := eventS_ok h0
          rw [ih f' _ (by omega) (by omega)]
        · rfl
      · rfl
def okL : Bs := [111, 107, 40, 49, 41, 46, 32, 37, 32, 110, 111, 116, 104, 105, 110, 103, 10]
theorem posS_up (u : Bs) : posS (okL ++ u) = upP (posS u) := by
  have go : ∀ (u : Bs) (p : Int × Int), u.foldl (fun p c => if c.toNat = 10 then (p.1 + 1, 1) else (p.1, p.2 + 1)) (upP p) = upP (u.foldl (fun p c => if c.toNat = 10 then (p.1 + 1, 1) else (p.1, p.2 + 1)) p) := by
    intro u
    induction u with
    | nil => intro p; rfl
    | cons c u ih =>
      intro p
      simp only [List.foldl_cons]
      rw [← ih]
      congr 1
      split <;> rfl
  unfold posS
  rw [List.foldl_append]
  exact go u (1, 1)
theorem toks_fuel (s : Bs) : ∀ (f f' i : Nat), s.length ≤ f + i → s.length ≤ f' + i → toksGo s f i = toksGo s f' i := by
  intro f
  induction f with
  | zero => intro f' i h _; rw [toksGo_end s 0 i (by omega), toksGo_end s f' i (by omega)]
  | succ f ih =>
    intro f' i h h'
    cases f' with
    | zero => rw [toksGo_end s 0 i (by omega), toksGo_end s (f + 1) i (by omega)]
    | succ f' =>
      rw [toksGo, toksGo]
      dsimp only
      split
      · split
        · rename_i h0
          have := nextS_pos h0
          rw [ih f' _ (by omega) (by omega)]
        · rfl
      · rfl
theorem toksGo_up (T : Bs) : ∀ (f i : Nat), toksGo (okL ++ T) f (17 + i) = ((toksGo T f i).1.map upT, (toksGo T f i).2.map upP)
  | 0, i => rfl
  | f + 1, i => by
    have hl : okL.length = 17 := rfl
    have hd : ∀ j, (okL ++ T).drop (17 + j) = T.drop j := fun j => by
      rw [← hl, List.drop_append, List.drop_eq_nil_of_le (by omega), List.nil_append, Nat.add_sub_cancel_left]
    have ht : (okL ++ T).take (17 + i) = okL ++ T.take i := by
      rw [← hl, List.take_append, List.take_of_length_le (by omega), Nat.add_sub_cancel_left]
    have e : (17 + i < (okL ++ T).length) = (i < T.length) := by rw [List.length_append, hl]; simp
    rw [toksGo, toksGo]
    dsimp only
    rw [hd, ht, posS_up]
    simp only [e, Nat.add_assoc, hd]
    rw [← Nat.add_assoc i, toksGo_up T f]
    split
    · split <;> rfl
    · rfl
theorem toksGo_step {s : Bs} {f i k n : Nat} {c : Int} (h : i < s.length) (hn : nextS (s.drop i) = (c, n, true)) (hb : blanksN false (s.drop (i + n)) = k) :
    toksGo s (f + 1) i = (⟨c, (s.drop i).take n, posS (s.take i)⟩ :: (toksGo s f (i + n + k)).1, (toksGo s f (i + n + k)).2) := by
  rw [toksGo, if_pos h]
  dsimp only
  rw [hn]
  dsimp only
  rw [hb, if_pos rfl]
def okTs : List Tok := [⟨1, [111, 107], (1, 1)⟩, ⟨5, [40], (1, 3)⟩, ⟨3, [49], (1, 4)⟩, ⟨5, [41], (1, 5)⟩, ⟨5, [46], (1, 6)⟩]
theorem toks_up (T : Bs) : toksS (okL ++ T) = (okTs ++ (toksS T).1.map upT, (toksS T).2.map upP) := by
  have hl : (okL ++ T).length = T.length + 12 + 5 := by rw [List.length_append]; show 17 + T.length = _; omega
  have h0 : blanksN false (okL ++ T) = 0 := rfl
  have s1 : nextS ((okL ++ T).drop 0) = (1, 2, true) := nextS_end (t := (1, [111, 107])) (r := [40, 49, 41, 46, 32, 37, 32, 110, 111, 116, 104, 105, 110, 103, 10] ++ T) (by unfold Tk; decide +kernel) rfl
  have s2 : nextS ((okL ++ T).drop 2) = (5, 1, true) := nextS_end (t := (5, [40])) (r := [49, 41, 46, 32, 37, 32, 110, 111, 116, 104, 105, 110, 103, 10] ++ T) (by unfold Tk; decide +kernel) rfl
  have s3 : nextS ((okL ++ T).drop 3) = (3, 1, true) := nextS_end (t := (3, [49])) (r := [41, 46, 32, 37, 32, 110, 111, 116, 104, 105, 110, 103, 10] ++ T) (by unfold Tk; decide +kernel) rfl
  have s4 : nextS ((okL ++ T).drop 4) = (5, 1, true) := nextS_end (t := (5, [41])) (r := [46, 32, 37, 32, 110, 111, 116, 104, 105, 110, 103, 10] ++ T) (by unfold Tk; decide +kernel) rfl
  have s5 : nextS ((okL ++ T).drop 5) = (5, 1, true) := nextS_end (t := (5, [46])) (r := [32, 37, 32, 110, 111, 116, 104, 105, 110, 103, 10] ++ T) (by unfold Tk; decide +kernel) rfl
  have b5 : blanksN false ((okL ++ T).drop (5 + 1)) = 11 + blanksN false T := by
    show blanksN false ([32, 37, 32, 110, 111, 116, 104, 105, 110, 103, 10] ++ T) = _
    simp [blanksN, blankB]; omega
  unfold toksS
  rw [hl, h0, toksGo_step (by omega) s1 (k := 0) rfl, toksGo_step (i := 0 + 2 + 0) (by omega) s2 (k := 0) rfl, toksGo_step (i := 0 + 2 + 0 + 1 + 0) (by omega) s3 (k := 0) rfl, toksGo_step (i := 0 + 2 + 0 + 1 + 0 + 1 + 0) (by omega) s4 (k := 0) rfl, toksGo_step (i := 0 + 2 + 0 + 1 + 0 + 1 + 0 + 1 + 0) (by omega) s5 b5]
  have e : 0 + 2 + 0 + 1 + 0 + 1 + 0 + 1 + 0 + 1 + (11 + blanksN false T) = 17 + blanksN false T := by omega
  rw [e, toksGo_up, toks_fuel T (T.length + 12) T.length _ (by omega) (by omega)]
  rfl
theorem hkk : okTs.map kt = (atomK [] (⟨[111, 107], [⟨1, 1, []⟩]⟩ : Fct).at).map (·.2) ++ [(5, [46])] := by decide +kernel
theorem place_up (l : List Tok) (j : Nat) (hne : l ≠ []) : placeT (okTs ++ l.map upT) (5 + j) = upP (placeT l j) := by
  unfold placeT
  rw [List.getElem?_append_right (by show 5 ≤ 5 + j; omega), show 5 + j - okTs.length = j from by show 5 + j - 5 = j; omega, List.getElem?_map]
  cases l[j]? with
  | some t => rfl
  | none =>
    simp only [Option.map_none]
    rw [List.getLast?_append, List.getLast?_map]
    cases hg : l.getLast? with
    | none => exact absurd (List.getLast?_eq_none_iff.1 hg) hne
    | some t => rfl
theorem go_up (l : List Tok) : traceGo (okTs ++ l.map upT) (okTs ++ l.map upT).length 0 = (⟨[111, 107], [⟨1, 1, []⟩]⟩ :: (traceGo l l.length 0).1, (traceGo l l.length 0).2.map (5 + ·)) := by
  have hlen : (okTs ++ l.map upT).length = l.length + 4 + 1 := by rw [List.length_append, List.length_map]; show 5 + l.length = _; omega
  have hev : eventS (okTs ++ l.map upT) 0 = (⟨[111, 107], [⟨1, 1, []⟩]⟩, 5, 0) := by
    have := eventS_back (l := okTs ++ l.map upT) (i := 0) (f := ⟨[111, 107], [⟨1, 1, []⟩]⟩) (b := []) (m := (l.map upT).map kt) (by decide +kernel) (by rw [List.drop_zero, List.map_append, hkk]; simp)
    rw [this]; rfl
  have hm := mv_go okTs l (l.length + 4) 0
  have e5 : okTs.length + 0 = 5 := rfl
  rw [e5] at hm
  rw [hlen, traceGo, if_pos (by omega)]
  dsimp only
  rw [hev]
  dsimp only
  rw [if_pos rfl, hm, go_fuel l (l.length + 4) l.length 0 (by omega) (by omega)]
  rfl
theorem parse_up {T : Bs} {p : Int × Int} {c : Int} (h : parseT T = ([], p, c)) (hc : c = 6 ∨ c = 7) : parseT (okL ++ T) = ([], upP p, c) := by
  have ht := toks_up T
  unfold parseT at h ⊢
  have e1 : errR (okL ++ T) = errR T := by unfold errR; rw [ht]; cases (toksS T).2 <;> rfl
  rw [e1]
  by_cases he : errR T = 0
  · rw [if_pos he] at h ⊢
    have hz : (toksS T).2 = none := by
      unfold errR at he
      cases hh : (toksS T).2 with
      | none => rfl
      | some p => rw [hh] at he; simp at he
    have e2 : toksR (okL ++ T) = okTs ++ (toksR T).map upT := by
      unfold toksR; rw [ht, hz]; rfl
    rw [e2]
    generalize toksR T = l at *
    dsimp only at h ⊢
    rw [go_up]
    cases hn : (traceGo l l.length 0).2 with
    | none =>
      rw [hn] at h
      dsimp only at h
      split at h
      · simp only [Prod.mk.injEq] at h; omega
      · simp only [Prod.mk.injEq] at h; omega
    | some j =>
      rw [hn] at h
      simp only [Prod.mk.injEq] at h
      obtain ⟨_, hp, hc7⟩ := h
      have hne : l ≠ [] := by
        rintro rfl
        rw [show traceGo [] ([] : List Tok).length 0 = ([], none) from rfl] at hn; cases hn
      simp only [Option.map_some]
      show ([], placeT (okTs ++ l.map upT) (5 + j), (7 : Int)) = _
      rw [place_up l j hne, hp, hc7]
  · rw [if_neg he] at h ⊢
    simp only [Prod.mk.injEq] at h
    obtain ⟨_, hp, hc⟩ := h
    have e2 : posR (okL ++ T) = upP (posR T) := by
      unfold posR; rw [ht]
      cases hz : (toksS T).2 with
      | none => exfalso; apply he; unfold errR; rw [hz]; rfl
      | some q => rfl
    rw [e2, hp, hc]
def okN : Nat → Bs
  | 0 => []
  | n + 1 => okN n ++ okL
theorem okN_succ : ∀ n, okN (n + 1) = okL ++ okN n
  | 0 => rfl
  | n + 1 => by
    show okN (n + 1) ++ okL = okL ++ (okN n ++ okL)
    rw [okN_succ n, List.append_assoc]
theorem okN_len : ∀ n, (okN n).length = 17 * n
  | 0 => rfl
  | n + 1 => by rw [okN, List.length_append, okN_len n]; show 17 * n + 17 = _; omega
theorem parse_lines {T : Bs} {p : Int × Int} {c : Int} (h : parseT T = ([], p, c)) (hc : c = 6 ∨ c = 7) : ∀ n : Nat, parseT (okN n ++ T) = ([], (p.1 + n, p.2), c)
  | 0 => by rw [show okN 0 ++ T = T from rfl, h]; simp
  | n + 1 => by
    rw [okN_succ, List.append_assoc, parse_up (parse_lines h hc n) hc]
    unfold upP
    simp only [Prod.mk.injEq, true_and, and_true]
    omega
def badS : List Bs := [[112, 40, 49, 41], [112, 40, 49, 44, 41, 46], [112, 40, 88, 41, 46], [113, 46, 32, 112, 40, 49, 44, 32, 88, 41, 46], [110, 111, 116, 40, 49, 41, 46], [112, 32, 49, 46], [49, 46], [112, 40, 49, 41, 46, 32, 46], [112, 40, 34, 97, 41, 46], [112, 40, 49, 44, 32, 50, 44, 32, 51, 44, 32, 52, 44, 32, 53, 44, 32, 54, 41, 46]]
def lineS : List Int := [1, 0, 0, 0, 0, 0, 0, 0, 0, 0]
def colS : List Int := [1, 5, 1, 4, 1, 3, 1, 7, 3, 1]
def whyS : List Int := [7, 7, 7, 7, 7, 7, 7, 7, 6, 7]
theorem bad_S : ((List.range 10).all fun k => decide ((parseT (badS.getD k [] ++ [10, 114, 46])).1.length = 0) && decide ((parseT (badS.getD k [] ++ [10, 114, 46])).2 = ((1 + lineS.getD k 0, colS.getD k 0), whyS.getD k 0)) && decide (whyS.getD k 0 = 6 ∨ whyS.getD k 0 = 7) && decide ((badS.getD k []).length ≤ 30)) = true := by decide +kernel
end Go.PV
namespace Go.PV
open Go Go.Proofs
set_option maxRecDepth 100000
theorem tracePlaces_good (n0 how : Int) {p1 p2 : Prop} (_ : p1) (_ : p2) : Good Tryz.prog 6 [.int .i64 n0, .int .i64 how] [] [.bool true] [] := by
  refine good_of hP Tryz.func6 (by kernel_rfl) (lv := [0, 1, 4, 5, 6, 7, 8, 9, 10, 11, 12, 13, 14, 29]) (js := []) ⟨rfl, rfl, rfl, rfl, rfl, rfl, _, rfl, ?_⟩
  obtain ⟨n, hn, hnw⟩ := modk (m := 30) (by omega) (by omega) n0
  obtain ⟨k, hk, hkw⟩ := modk (m := 10) (by omega) (by omega) how
  have hk : k < 10 := by omega
  have hfa := List.all_eq_true.1 bad_S k (List.mem_range.2 hk)
  simp only [Bool.and_eq_true, decide_eq_true_eq] at hfa
  obtain ⟨⟨⟨f1, f2⟩, f3⟩, f4⟩ := hfa
  have b1 : k < badS.length := hk
  have b2 : k < lineS.length := hk
  have b3 : k < colS.length := hk
  have b4 : k < whyS.length := hk
  have g1 : badS.getD k [] = badS[k] := List.getElem_eq_getD _ |>.symm
  have g2 : lineS.getD k 0 = lineS[k] := List.getElem_eq_getD _ |>.symm
  have g3 : colS.getD k 0 = colS[k] := List.getElem_eq_getD _ |>.symm
  have g4 : whyS.getD k 0 = whyS[k] := List.getElem_eq_getD _ |>.symm
  have hl1 : 0 ≤ lineS[k] ∧ lineS[k] ≤ 1 := by
    have : lineS.all (fun x => decide (0 ≤ x ∧ x ≤ 1)) = true := by decide
    exact of_decide_eq_true (List.all_eq_true.1 this _ (List.getElem_mem b2))
  rw [g1] at f1 f2 f4
  rw [g2, g3, g4] at f2
  rw [g4] at f3
  have hpz : parseT (badS[k] ++ [10, 114, 46]) = ([], (1 + lineS[k], colS[k]), whyS[k]) := Prod.ext (List.eq_nil_of_length_eq_zero f1) f2
  have hp := parse_lines hpz f3 n
  conv => whnf
  refine ⟨⟨⟩, by decide, ?_⟩
  conv => whnf
  refine ⟨⟨⟩, by decide, ?_⟩
  conv => whnf
  rw [hnw, hkw]
  refine loop_of hP [0, 1, 4, 5, 6, 7, 8, 9, 10, 11, 12, 13, 14, 29] [] [0, 4, 5, 6, 7, 8, 9, 10, 11] [83, 84, 85, 86] [] (fun m st => ∃ i : Nat, m = n - i ∧ i ≤ n ∧ st = ⟨[(0, .int .i64 n), (4, .bool false), (5, .own 83 0), (6, .own 84 0), (7, .own 85 0), (8, .own 86 0), (9, .int .i64 k), (10, .str (okN i)), (11, .int .i64 i)],
    [(83, .arr 0 false 1 (badS.map fun t => [V.str t])), (84, .arr 0 false 1 (lineS.map fun t => [V.int .i64 t])), (85, .arr 0 false 1 (colS.map fun t => [V.int .i64 t])), (86, .arr 0 false 1 (whyS.map fun t => [V.int .i64 t]))]⟩) n ?_ ?_
  · conv => whnf
    exact ⟨0, rfl, Nat.zero_le _, rfl⟩
  · rintro m st ⟨i, rfl, hi, rfl⟩
    have hol := okN_len i
    conv => whnf
    refine branch_of (fun h => ?_) (fun h => ?_)
    · have h := of_decide_eq_true h
      conv => whnf
      refine ⟨⟨⟩, by show (okN i).length + 17 ≤ 9223372036854775807; omega, ?_⟩
      conv => whnf
      refine ⟨n - (i + 1), by omega, i + 1, rfl, by omega, ?_⟩
      rw [wr (by omega) (by omega)]
      rfl
    · have h := of_decide_eq_false h
      obtain rfl : i = n := by omega
      conv => whnf
      refine ⟨⟨⟩, idxB (f := fun t => [V.str t]) b1 rfl, ?_⟩
      conv => whnf
      refine ⟨[.str badS[k]], (idxM (f := fun t => [V.str t]) b1 rfl).2, ?_⟩
      conv => whnf
      refine ⟨⟨⟩, by dsimp only; omega, ?_⟩
      conv => whnf
      refine ⟨⟨⟩, by show (okN i ++ badS[k]).length + 3 ≤ 9223372036854775807; rw [List.length_append]; omega, ?_⟩
      conv => whnf
      rw [List.append_assoc]
      refine call0 (parseT_good (okN i ++ (badS[k] ++ [10, 114, 46])) (by simp only [List.length_append, List.length_cons, List.length_nil]; omega)) ?_
      rw [hp]
      conv => whnf
      refine ⟨⟨⟩, idxB (f := fun t => [V.int .i64 t]) b4 rfl, ?_⟩
      conv => whnf
      refine ⟨[.int .i64 whyS[k]], (idxM (f := fun t => [V.int .i64 t]) b4 rfl).2, ?_⟩
      conv => whnf
      refine branch_of (fun h1 => ?_) (fun h1 => ?_)
      · conv => whnf
        refine ⟨⟨⟩, idxB (f := fun t => [V.int .i64 t]) b2 rfl, ?_⟩
        conv => whnf
        refine ⟨[.int .i64 lineS[k]], (idxM (f := fun t => [V.int .i64 t]) b2 rfl).2, ?_⟩
        conv => whnf
        refine branch_of (fun h2 => ?_) (fun h2 => ?_)
        · conv => whnf
          refine ⟨⟨⟩, idxB (f := fun t => [V.int .i64 t]) b3 rfl, ?_⟩
          conv => whnf
          refine ⟨[.int .i64 colS[k]], (idxM (f := fun t => [V.int .i64 t]) b3 rfl).2, ?_⟩
          conv => whnf
          refine branch_of (fun h3 => ?_) (fun h3 => ?_)
          · conv => whnf
            refine call0 (keepFacts_good [] [] (by simp) (fun f hf => by cases hf)) ?_
            rw [decide_eq_true rfl]
            conv => whnf
            refine call0 (wakes14_good) ?_
            conv => whnf
            refine ⟨by kernel_rfl, ?_⟩
            conv => whnf
            exact fin0 rfl trivial
          · exact absurd rfl (of_decide_eq_false h3)
        · have h2 := of_decide_eq_false h2
          have e1 : IntKind.i64.wrap ((i : Int) + 1) = (i : Int) + 1 := by rw [wr (by omega) (by omega)]
          have e2 : IntKind.i64.wrap ((i : Int) + 1 + lineS[k]) = (i : Int) + 1 + lineS[k] := by rw [wr (by omega) (by omega)]
          have e3 : (1 + lineS[k] + (i : Int)) = IntKind.i64.wrap (IntKind.i64.wrap ((i : Int) + 1) + lineS[k]) := by rw [e1, e2]; omega
          exact absurd e3 h2
      · exact absurd rfl (of_decide_eq_false h1)
end Go.PV
namespace Go.PV
open Go Go.RowKit
/-! an argument that can be read as data, as plain data -/
def cel (w : World) (b o : Nat) (u : Value) : Prop := w.cell? ⟨b, o, none⟩ = some u
def CellsW (w : World) (l : List V) (cs : List Value) : Prop := cs.length = l.length ∧ ∀ (j : Nat) (p : V), l[j]? = some p → ∃ u, cs[j]? = some u ∧ Sh (cel w) p u
theorem CellsW.one {w : World} {p : V} {u : Value} (h : Sh (cel w) p u) : CellsW w [p] [u] := ⟨rfl, fun j q hj => by
  cases j with
  | zero => simp at hj; subst hj; exact ⟨u, rfl, h⟩
  | succ j => simp at hj⟩
theorem CellsW.append {w : World} {l m : List V} {cs ds : List Value} (h : CellsW w l cs) (k : CellsW w m ds) : CellsW w (l ++ m) (cs ++ ds) := ⟨by simp [h.1, k.1], fun j p hj => by
  rcases Nat.lt_or_ge j l.length with hl | hl
  · rw [List.getElem?_append_left hl] at hj
    rw [List.getElem?_append_left (by rw [h.1]; exact hl)]; exact h.2 j p hj
  · rw [List.getElem?_append_right hl] at hj
    rw [List.getElem?_append_right (by rw [h.1]; exact hl), h.1]; exact k.2 _ p hj⟩
structure OpensV {α : Type} (n : Nat) (c : α → List V) (P : Program) (t : TypeId) (ok : α → Prop) : Prop where
  cells : P.cellsOf t = n
  len : ∀ v, (c v).length = n
  opens : ∀ {H : Type} {enc : TypeId × Value → H} {w : World} {base : Nat} {spare : Nat → Bool} {held : Bool} {fuel : Nat} {cs : List Value} {x : DataW H × List MemPlace},
    DataW.trod enc P w base spare held fuel t cs = some x → ∃ v, CellsW w (c v) cs ∧ ok v
section
variable {P : Program} {t : TypeId}
theorem OpensV.mono {α : Type} {n : Nat} {c : α → List V} {ok ok' : α → Prop} (h : OpensV n c P t ok) (hm : ∀ v, ok v → ok' v) : OpensV n c P t ok' :=
  ⟨h.cells, h.len, fun hx => by obtain ⟨v, h1, h2⟩ := h.opens hx; exact ⟨v, h1, hm v h2⟩⟩
theorem OpensV.int {k : IntKind} (hu : P.underlying t = some (.int k)) (hc : P.cellsOf t = 1) : OpensV 1 (fun n => [.int k n]) P t (fun n => (Lit.int k n).wf = true) :=
  ⟨hc, fun _ => rfl, fun hx => by obtain ⟨m, rfl, rfl, hw⟩ := DataW.trod_int hu hx; exact ⟨m, .one (.int _ _), hw⟩⟩
theorem OpensV.string (hu : P.underlying t = some .string) (hc : P.cellsOf t = 1) : OpensV 1 (fun s : List UInt8 => [.str s]) P t (fun s => s.length ≤ maxLen) :=
  ⟨hc, fun _ => rfl, fun hx => by obtain ⟨s, rfl, _, hw⟩ := DataW.trod_string hu hx; exact ⟨s.data.toList, .one (.str _), hw⟩⟩
theorem OpensV.bool (hu : P.underlying t = some .bool) (hc : P.cellsOf t = 1) : OpensV 1 (fun b => [.bool b]) P t (fun _ => True) :=
  ⟨hc, fun _ => rfl, fun hx => by obtain ⟨b, rfl, _⟩ := DataW.trod_bool hu hx; exact ⟨b, .one (.bool _), trivial⟩⟩
theorem OpensV.iso {α β : Type} {n : Nat} {c : α → List V} {ok : α → Prop} {f : β → α} (g : α → β) (hg : ∀ a, f (g a) = a) (h : OpensV n c P t ok) : OpensV n (fun b => c (f b)) P t (fun b => ok (f b)) :=
  ⟨h.cells, fun b => h.len (f b), fun hx => by
    obtain ⟨v, h1, h2⟩ := h.opens hx
    exact ⟨g v, by rw [hg]; exact h1, by rw [hg]; exact h2⟩⟩
/-- fields that lie side by side from off on -/
structure OpensVs {α : Type} (n : Nat) (c : α → List V) (P : Program) (fs : List Field) (off : Nat) (ok : α → Prop) : Prop where
  len : ∀ v, (c v).length = n
  opens : ∀ {H : Type} {enc : TypeId × Value → H} {w : World} {base : Nat} {spare : Nat → Bool} {held : Bool} {fuel : Nat} {cs : List Value},
    off + n = cs.length → (∀ (i : Nat) (f : Field), fs[i]? = some f → ∃ x, DataW.trod enc P w base spare held fuel f.type ((cs.drop f.offset).take (P.cellsOf f.type)) = some x) → ∃ v, CellsW w (c v) (cs.drop off) ∧ ok v
theorem OpensVs.one {α : Type} {n : Nat} {c : α → List V} {f : Field} {off : Nat} {ok : α → Prop} (ho : f.offset = off) (h : OpensV n c P f.type ok) : OpensVs n c P [f] off ok := by
  refine ⟨h.len, ?_⟩
  intro H enc w base spare held fuel cs hl hx
  obtain ⟨x, hx⟩ := hx 0 f rfl
  rw [ho, h.cells, List.take_of_length_le (by simp; omega)] at hx
  exact h.opens hx
theorem OpensVs.cons {α β : Type} {n m : Nat} {c : α → List V} {d : β → List V} {f : Field} {fs : List Field} {off : Nat} {ok : α → Prop} {ok' : β → Prop} (ho : f.offset = off) (h : OpensV n c P f.type ok) (h' : OpensVs m d P fs (off + n) ok') :
    OpensVs (n + m) (fun v : α × β => c v.1 ++ d v.2) P (f :: fs) off (fun v => ok v.1 ∧ ok' v.2) := by
  refine ⟨fun v => by rw [List.length_append, h.len, h'.len], ?_⟩
  intro H enc w base spare held fuel cs hl hx
  obtain ⟨x, hx0⟩ := hx 0 f rfl
  rw [ho, h.cells] at hx0
  obtain ⟨v, hv, ov⟩ := h.opens hx0
  obtain ⟨u, hu, ou⟩ := h'.opens (cs := cs) (by omega) (fun i g hg => hx (i + 1) g hg)
  refine ⟨(v, u), ?_, ov, ou⟩
  have := hv.append hu
  rwa [← List.drop_drop, List.take_append_drop] at this
theorem OpensV.struct {α : Type} {n : Nat} {c : α → List V} {fs : Array Field} {ok : α → Prop} (hu : P.underlying t = some (.struct fs)) (hc : P.cellsOf t = n) (h : OpensVs n c P fs.toList 0 ok) : OpensV n c P t ok := by
  refine ⟨hc, h.len, ?_⟩
  intro H enc w base spare held fuel cs x hx
  obtain ⟨xs, n, rfl, _, hl, hxl, hf⟩ := DataW.trod_struct hu hx
  have := h.opens (cs := cs) (enc := enc) (w := w) (base := base) (spare := spare) (held := held) (fuel := n) (by omega) (by
    intro i f hi
    have hi' : fs[i]? = some f := by simpa using hi
    have hlt : i < xs.length := by
      rw [hxl]
      exact (Array.getElem?_eq_some_iff.1 hi').1
    exact ⟨xs[i], by rw [hf i f hi', List.getElem?_eq_getElem hlt]⟩)
  simpa using this
theorem list_of {α : Type} {Q : Nat → α → Prop} : ∀ n : Nat, (∀ i, i < n → ∃ v, Q i v) → ∃ l : List α, l.length = n ∧ ∀ i v, l[i]? = some v → Q i v := by
  intro n
  induction n with
  | zero => intro _; exact ⟨[], rfl, fun i v h => by simp at h⟩
  | succ n ih =>
    intro h
    obtain ⟨l, hl, hq⟩ := ih (fun i hi => h i (by omega))
    obtain ⟨v, hv⟩ := h n (by omega)
    refine ⟨l ++ [v], by simp [hl], ?_⟩
    intro i u hu
    by_cases hi : i < l.length
    · rw [List.getElem?_append_left hi] at hu
      exact hq i u hu
    · rw [List.getElem?_append_right (by omega)] at hu
      have h0 : i - l.length = 0 := by
        by_cases h0 : i - l.length = 0
        · exact h0
        · rw [List.getElem?_eq_none (by simp; omega)] at hu; cases hu
      rw [h0] at hu
      simp at hu
      subst hu
      have : i = n := by omega
      subst this
      exact hv
theorem cell_spot {w : World} {a : Addr} {u : Value} (h : w.cell? a = some u) : a.spot = none := by
  unfold World.cell? at h
  split at h
  · cases hs : a.spot with
    | none => rfl
    | some s => rw [hs] at h; simp at h
  · cases h
/-- a slice that is read as data -/
theorem OpensV.row {α : Type} {n : Nat} {c : α → List V} {e : TypeId} {ok : α → Prop} (h : OpensV n c P e ok) (h0 : 0 < n) (hu : P.underlying t = some (.slice e))
    {H : Type} {enc : TypeId × Value → H} {w : World} {base : Nat} {spare : Nat → Bool} {held : Bool} {fuel : Nat} {cs : List Value} {x : DataW H × List MemPlace}
    (hx : DataW.trod enc P w base spare held fuel t cs = some x) : ∃ (l : List α) (A : Option Addr) (cap : Nat), cs = [.slice A l.length cap] ∧ Sh (cel w) (.sl n (l.map c)) (.slice A l.length cap) ∧ l.length ≤ cap ∧ cap ≤ maxLen ∧ ∀ v ∈ l, ok v := by
  rcases DataW.trod_slice hu hx with ⟨hcs, _⟩ | ⟨a, len, cap, elems, rest, m, rfl, hcs, _, hb, hl, hm, hlen, hel, _⟩
  · exact ⟨[], none, 0, hcs, .sl0 _ _ _, Nat.le_refl _, by unfold maxLen; omega, fun v hv => by simp at hv⟩
  · obtain ⟨l, hll, hq⟩ := list_of (Q := fun i v => ∃ cs, w.cells? base (a.add (i * P.cellsOf e)) (P.cellsOf e) = some cs ∧ CellsW w (c v) cs ∧ ok v) len (by
      intro i hi
      have h1 := hel i hi
      rw [List.getElem?_eq_getElem (by omega), Option.bind_eq_some_iff] at h1
      obtain ⟨cs, h2, h3⟩ := h1
      obtain ⟨v, h4, h5⟩ := h.opens h3
      exact ⟨v, cs, h2, h4, h5⟩)
    have hok : ∀ v ∈ l, ok v := by
      intro v hv
      obtain ⟨i, hi⟩ := List.getElem?_of_mem hv
      obtain ⟨_, _, _, h5⟩ := hq i v hi
      exact h5
    refine ⟨l, some a, cap, by rw [hll]; exact hcs, ?_, by omega, hm, hok⟩
    by_cases hz : l = []
    · subst hz; exact .sl0 _ _ _
    have at_ : ∀ (i : Nat) (v : α) (j : Nat) (p : V), l[i]? = some v → (c v)[j]? = some p → ∃ u, w.cell? ((a.add (i * n)).add j) = some u ∧ Sh (cel w) p u := by
      intro i v j p hi hj
      obtain ⟨cs, h2, h4, _⟩ := hq i v hi
      obtain ⟨_, h6, h7⟩ := World.cells?_some h2
      obtain ⟨u, h8, h9⟩ := h4.2 j p hj
      have hlt : j < P.cellsOf e := by rw [← h6]; exact (List.getElem?_eq_some_iff.1 h8).1
      have h10 := h7 j hlt
      rw [h.cells, h8] at h10
      exact ⟨u, h10, h9⟩
    have hsp : a.spot = none := by
      obtain ⟨v, r, rfl⟩ := List.exists_cons_of_ne_nil hz
      have h1 : 0 < (c v).length := by rw [h.len]; exact h0
      obtain ⟨u, h2, _⟩ := at_ 0 v 0 _ rfl (List.getElem?_eq_getElem h1)
      have := cell_spot h2
      simpa [Addr.add] using this
    obtain ⟨b, off, sp⟩ := a
    simp only at hsp
    subst hsp
    have hadd : ∀ i j : Nat, ((⟨b, off, none⟩ : Addr).add (i * n)).add j = ⟨b, off + i * n + j, none⟩ := fun i j => by
      rw [Addr.add_none, Addr.add_none]
    have hml : (l.map c).length = l.length := List.length_map _
    rw [← hml]
    refine .sl n (l.map c) b off cap (fun i j => (w.cell? ⟨b, off + i * n + j, none⟩).getD undef) h0 (fun i x hx => ?_) (by rw [hml]; omega) (fun i x j p hx hj => ?_) (fun i x j p hx hj => ?_)
    · rw [List.getElem?_map, Option.map_eq_some_iff] at hx
      obtain ⟨v, _, rfl⟩ := hx; exact h.len v
    · rw [List.getElem?_map, Option.map_eq_some_iff] at hx
      obtain ⟨v, hi, rfl⟩ := hx
      obtain ⟨u, h2, _⟩ := at_ i v j p hi hj
      rw [hadd] at h2
      show w.cell? _ = _
      rw [h2]; rfl
    · rw [List.getElem?_map, Option.map_eq_some_iff] at hx
      obtain ⟨v, hi, rfl⟩ := hx
      obtain ⟨u, h2, h3⟩ := at_ i v j p hi hj
      rw [hadd] at h2
      rw [h2]; exact h3
theorem OpensV.slice {α : Type} {n : Nat} {c : α → List V} {e : TypeId} {ok : α → Prop} (h : OpensV n c P e ok) (h0 : 0 < n) (hu : P.underlying t = some (.slice e)) (hc : P.cellsOf t = 1) : OpensV 1 (fun l : List α => [.sl n (l.map c)]) P t (fun l => l.length ≤ maxLen ∧ ∀ v ∈ l, ok v) :=
  ⟨hc, fun _ => rfl, fun hx => by
    obtain ⟨l, A, cap, rfl, h2, h3, h4, h5⟩ := h.row h0 hu hx
    exact ⟨l, .one h2, Nat.le_trans h3 h4, h5⟩⟩
/-- an argument that is a slice -/
theorem OpensV.arg {α : Type} {n : Nat} {c : α → List V} {e : TypeId} {ok : α → Prop} (h : OpensV n c P e ok) (h0 : 0 < n) (hu : P.underlying t = some (.slice e))
    {H : Type} {enc : TypeId × Value → H} {w : World} {r : Reach} {base b0 : Nat} {spare : Nat → Bool} {held : Bool} {v : Value} {x : DataW H} {ps : List MemPlace}
    (hv : Value.okWide P w r b0 t v) (hx : DataW.Trod enc P w base spare held t v x ps) : ∃ l : List α, Sh (cel w) (.sl n (l.map c)) v ∧ l.length ≤ maxLen ∧ ∀ v ∈ l, ok v := by
  obtain ⟨a, len, cap, rfl⟩ := Go.WideShapes.okWide_slice hu hv
  obtain ⟨fuel, hf⟩ := hx
  have hf' : DataW.trod enc P w base spare held fuel t [.slice a len cap] = some (x, ps) := hf
  obtain ⟨l, A, cp, h1, h2, h3, h4, h5⟩ := h.row h0 hu hf'
  cases h1
  exact ⟨l, h2, Nat.le_trans h3 h4, h5⟩
/-- an argument that is a struct -/
theorem OpensV.agg {α : Type} {n : Nat} {c : α → List V} {ok : α → Prop} (h : OpensV n c P t ok) {fs : Array Field} (hu : P.underlying t = some (.struct fs))
    {H : Type} {enc : TypeId × Value → H} {w : World} {r : Reach} {base b0 : Nat} {spare : Nat → Bool} {held : Bool} {v : Value} {x : DataW H} {ps : List MemPlace}
    (hv : Value.okWide P w r b0 t v) (hx : DataW.Trod enc P w base spare held t v x ps) : ∃ u cs, v = .agg ⟨cs⟩ ∧ CellsW w (c u) cs ∧ ok u := by
  obtain ⟨cs, rfl, _⟩ := Go.WideShapes.okWide_struct hu hv
  obtain ⟨fuel, hf⟩ := hx
  obtain ⟨u, h1, h2⟩ := h.opens hf
  exact ⟨u, cs.toList, rfl, h1, h2⟩
end
/-- what nothing owns -/
def G0 : Gh := { own := fun _ => ⟨none, none⟩, blk := fun _ => 0, cap := fun _ => 0, isnil := fun _ => false }
theorem sh0 {w : World} {p : V} {v : Value} (h : Sh (cel w) p v) : Sh (stab G0 w) p v := h.mono fun b o c hc => ⟨fun l hl => (by cases hl), hc⟩
theorem ra0 {w : World} {O : Tb} {p : V} {v : Value} (h : Sh (cel w) p v) : RA G0 w O p v := .cell _ _ (.sh _ _ (sh0 h))
theorem raAgg {w : World} {O : Tb} {l : List V} {cs : List Value} (h : CellsW w l cs) : RA G0 w O (.agg l) (.agg ⟨cs⟩) :=
  .agg _ _ ⟨by simpa using h.1, fun j p hj => by obtain ⟨u, h1, h2⟩ := h.2 j p hj; exact ⟨u, by simpa using h1, .sh _ _ (sh0 h2)⟩⟩
/-- pair by pair -/
inductive Each (R : V → Value → Prop) : List V → List Value → Prop
  | nil : Each R [] []
  | cons {p v ps vs} (h : R p v) (k : Each R ps vs) : Each R (p :: ps) (v :: vs)
theorem cellsOf {R : V → Value → Prop} : ∀ {ps : List V} {vs : List Value}, Each R ps vs → Cells R ps ⟨vs⟩
  | [], [], _ => ⟨rfl, fun j p hj => by simp at hj⟩
  | p :: ps, v :: vs, .cons h1 h2 => by
    have ih := cellsOf h2
    refine ⟨by have := ih.1; simp at this ⊢; omega, fun j q hj => ?_⟩
    cases j with
    | zero => simp at hj; subst hj; exact ⟨v, rfl, h1⟩
    | succ j => obtain ⟨c, h3, h4⟩ := ih.2 j q (by simpa using hj); exact ⟨c, by simpa using h3, h4⟩
/-- a law's call -/
theorem law_calls {P : Program} [Env P] {f : FuncId} {args : List V} {vs : List Value} {w : World} (h : Good P f args [] [.bool true] []) (hc : Each (RA G0 w (tbl [])) args vs) (hn : Env.ng P ≤ w.heap.size) (hz : Env.Z P w) :
    Calls P f ⟨vs⟩ w fun e w' => e = .returned (.bool true) ∧ Below w.heap.size w w' :=
  (h.run ⟨vs⟩ w G0 (cellsOf hc) (fun k o hk => by simp at hk) (fun k hk => ⟨by omega, rfl⟩) hz).mono fun e w' hh => by
    obtain ⟨rv, G', h1, h2, _, h3⟩ := hh
    refine ⟨?_, ⟨h3.sys, h3.tape, h3.output, h3.size, fun k hk => (h3.im k hk rfl).2⟩⟩
    rw [h1]
    cases (show RA G' w' (tbl []) (.bool true) rv from h2).bool_eq
    rfl
end Go.PV
namespace Go.PV
open Go Go.RowKit Go.Proofs
/-! what is known of arguments of these types -/
end Go.PV
namespace Go.PV
open Go
/-! a row's closed facts, one by one -/
theorem joined_of {P : Program} {f : FuncId} {fn : Func} {s : ChangeSpec} {c : OpenClaim} (h1 : c.wf (OpenSpec.ofChange s) = true) (h2 : laidOutB P = true) (h3 : mapsRowed P = true) (h4 : namedTie P c.named s.vars = true)
    (h5 : (P.stops == []) = true) (h6 : (P.stopKnobs == []) = true) (h7 : (c.inPlace == P.inPlace f) = true) (h8 : (c.unfollowed == P.unfollowed f) = true) (h9 : (c.recurses == P.recurses f) = true) (h10 : (c.named == P.varsNamed f) = true)
    (h11 : (c.plainKeys == P.plainKeys) = true) (h12 : P.stopsHeard = true) (h13 : P.mayEnter = true) (h14 : (c.lifted == P.liftsFinal) = true) (h15 : (P.make == some c.make) = true)
    (h16 : (fn.params.all (P.readableRec ·) && (c.stops == []) && (c.knobs == []) &&
      (c.maps == (fn.params.toList ++ s.plain.varTypes P).any (P.mapsRec ·)) && (c.ifaces == (fn.params.toList ++ s.plain.varTypes P).any (P.ifacesRec ·)) && (c.mapsOut == P.mapsAmong fn.resultTypes.toList) &&
      (c.loops == (fn.params.toList ++ s.plain.varTypes P).any (P.loopsFrom ·)) && (c.wideKeys == (fn.params.toList ++ s.plain.varTypes P ++ fn.resultTypes.toList).any (P.wideKeysFrom ·)) &&
      s.vars.all (P.varReadable ·) && fn.resultTypes.all (fun t => P.readableRec t && decide (t < P.types.size)) && (c.ifacesOut == fn.resultTypes.toList.any (P.ifacesRec ·)) && (c.loopsOut == fn.resultTypes.toList.any (P.loopsFrom ·)) && c.shortTexts.isNone &&
      (c.kinds == (if c.domain.isEmpty then [] else fn.params.toList.map fun t => match P.underlying t with | some (.int k) => some k | _ => none)) && (c.pinned == c.pinnedBy) &&
      (c.veiled == (fn.params.toList ++ s.plain.varTypes P ++ fn.resultTypes.toList).any (P.veiledRec ·)) && c.veiledFits P fn.params.toList (fn.params.toList ++ s.plain.varTypes P ++ fn.resultTypes.toList)) = true) : joinedFacts P f fn s c = true := by
  unfold joinedFacts
  rw [h1, h2, h3, h4, h5, h6, h7, h8, h9, h10, h11, h12, h13, h14, h15]
  simp only [Bool.true_and, Bool.and_true]
  exact h16
end Go.PV
namespace Go.PV
open Go Go.RowKit Go.Lib Go.Proofs Go.Proofs.YtfdopmapaaagoaaGreatDoor
theorem pow_datum : (Rows.laid_internal_strconv_uint64pow10 : DataW Unit) = Lib.tabData .u64 Lib.pow10Tab := by kernel_rfl
theorem laidT_of {r : List (String × DataW Unit)} {W : World} (h : laidMet Tryz.prog (("internal/strconv.uint64pow10", Rows.laid_internal_strconv_uint64pow10) :: r) W) : Lib.TabIs Tryz.prog W "internal/strconv.uint64pow10" .u64 Lib.pow10Tab := by
  rw [pow_datum] at h
  exact tabIs_of_head (g := 1) (by kernel_rfl) (by kernel_rfl) Tryz.underlying285 Tryz.underlying266 (by kernel_rfl) (by kernel_rfl) h
theorem star_es : "*" ++ "errors.errorString" = "*errors.errorString" := by decide
theorem row_es (u : TypeId) (h : Tryz.prog.typeName? 3 u = some "*errors.errorString") : u = 303 :=
  typeName_ptr_named (nm := "errors.errorString") (by rw [star_es]; kernel_rfl) (by kernel_rfl) (by decide) u (by rw [star_es]; exact h)
theorem globRan_of {r : List (String × DataW Unit)} {W : World} (h : laidMet Tryz.prog (("strconv.ErrRange", Rows.laid_strconv_ErrRange) :: r) W) : ∃ tp p, W.var? Tryz.prog "strconv.ErrRange" = some #[.iface tp p] := by
  obtain ⟨a, s, hv, _⟩ := laid_sentinel (g := 3) h (by kernel_rfl) (by kernel_rfl) Tryz.underlying217 row_es Tryz.underlying303 Tryz.underlying305 rfl rfl Tryz.underlying9 (by kernel_rfl) (by kernel_rfl)
  exact ⟨_, _, hv⟩
theorem globSyn_of {r : List (String × DataW Unit)} {W : World} (h : laidMet Tryz.prog (("strconv.ErrSyntax", Rows.laid_strconv_ErrSyntax) :: r) W) : ∃ tp p, W.var? Tryz.prog "strconv.ErrSyntax" = some #[.iface tp p] := by
  obtain ⟨a, s, hv, _⟩ := laid_sentinel (g := 2) h (by kernel_rfl) (by kernel_rfl) Tryz.underlying217 row_es Tryz.underlying303 Tryz.underlying305 rfl rfl Tryz.underlying9 (by kernel_rfl) (by kernel_rfl)
  exact ⟨_, _, hv⟩
end Go.PV
