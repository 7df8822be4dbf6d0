/- Part of the proof. -/
import Derived.Test.YtfdopmapaaagoaaGreatDoorM5
set_option linter.unusedVariables false
set_option linter.unusedSimpArgs false
namespace Go.PV
open Go
/-- a reader's place is one of the list's; it is not bad and over at once -/
structure Iv (r : Rd) : Prop where
  le : r.i ≤ r.l.length
  nb : r.bad = true → r.over = false
namespace Iv
theorem step {r : Rd} (h : Iv r) (hs : r.i < r.l.length) : Iv r.step := ⟨hs, h.nb⟩
theorem fail {r : Rd} (h : Iv r) (ho : r.isOpen = true) : Iv r.fail := ⟨h.le, fun _ => by
  unfold Rd.isOpen at ho; simp at ho; exact ho.2⟩
theorem wrong {r : Rd} (h : Iv r) (b : Bool) : Iv { r with wrong := b } := ⟨h.le, h.nb⟩
theorem see {r : Rd} (h : Iv r) {k : Int} {t : Bs} (hs : r.see k t = true) : Iv r.step := h.step (Rd.cur_lt (Rd.see_open hs).2)
theorem want {r : Rd} (h : Iv r) (k : Int) (t : Bs) : Iv (r.want k t) := by
  unfold Rd.want
  split
  · rename_i hs; exact h.see hs
  · split
    · rename_i ho; exact h.fail ho
    · exact h
theorem name {r : Rd} (h : Iv r) : Iv r.name.2 := by
  unfold Rd.name
  split
  · rename_i ho
    split
    · rename_i x hx
      split
      · exact h.step (Rd.cur_lt hx)
      · exact h.fail ho
    · exact h.fail ho
  · exact h
theorem num {r : Rd} (h : Iv r) : Iv r.num.2 := by
  unfold Rd.num
  split
  · rename_i ho
    split
    · rename_i x hx
      split
      · exact h.step (Rd.cur_lt hx)
      · exact h.fail ho
    · exact h.fail ho
  · exact h
theorem term {r : Rd} (h : Iv r) : Iv r.term.2 := by
  unfold Rd.term
  split
  · rename_i ho
    split
    · rename_i t hx
      cases hc : r.cur with
      | none => rw [hc] at hx; cases hx
      | some x => exact h.step (Rd.cur_lt hc)
    · exact h.fail ho
  · exact h
theorem args : ∀ (f : Nat) {r : Rd}, Iv r → Iv (Rd.args f r).2
  | 0, _, h => h
  | f + 1, r, h => by
    unfold Rd.args
    split
    · rename_i hs; exact args f (h.see hs).term
    · exact h
theorem atom {r : Rd} (h : Iv r) : Iv r.atom.2 := by
  unfold Rd.atom
  dsimp only
  split
  · rename_i hs
    have hb : Iv r.name.2.brack.2 := ((h.name.see hs).term.args _).want _ _
    dsimp only
    split
    · exact hb.wrong true
    · exact hb
  · exact h.name
theorem reckons {r : Rd} (h : Iv r) : Iv r.reckons.2 := by
  unfold Rd.reckons
  split
  · rename_i hs; exact h.see hs
  · split
    · rename_i hs; exact h.see hs
    · split
      · rename_i hs; exact h.see hs
      · dsimp only
        split
        · rename_i ho; exact h.fail ho
        · exact h
theorem part : ∀ (n : Nat) {r : Rd}, Iv r → Iv (r.part n).2
  | 0, r, h => by
    unfold Rd.part
    split
    · rename_i hs
      have ho := (Rd.see_open hs).1
      refine ⟨(h.see hs).le, fun hb => ?_⟩
      unfold Rd.isOpen at ho
      simp at ho
      have : r.bad = true := hb
      rw [ho.1] at this; cases this
    · exact h.term
  | n + 1, r, h => by
    unfold Rd.part
    split
    · rename_i hs
      have h2 := (part n (h.see hs)).reckons
      dsimp only
      split
      · exact (part n h2).want _ _
      · exact h2
    · exact h.term
theorem expr {r : Rd} (h : Iv r) : Iv r.expr.2 := by
  unfold Rd.expr
  split
  · dsimp only
    split
    · exact (part 15 h).wrong true
    · exact part 15 h
  · exact h
theorem way {r : Rd} (h : Iv r) : Iv r.way.2 := by
  unfold Rd.way
  split
  · rename_i hs; exact h.see hs
  · split
    · rename_i hs; exact h.see hs
    · split
      · rename_i hs; exact h.see hs
      · split
        · rename_i hs; exact h.see hs
        · dsimp only
          split
          · rename_i ho; exact h.fail ho
          · exact h
theorem condR {r : Rd} (h : Iv r) : Iv r.condR.2 := by
  unfold Rd.condR
  split
  · rename_i hs; exact ((h.see hs).expr.way.expr).want _ _
  · split
    · rename_i hs; exact (h.see hs).atom
    · exact h.atom
theorem many {α : Type} {g : Rd → α × Rd} (hg : ∀ {r : Rd}, Iv r → Iv (g r).2) : ∀ (n : Nat) {r : Rd}, Iv r → Iv (Rd.many g n r).2
  | 0, _, h => h
  | n + 1, r, h => by
    unfold Rd.many
    split
    · rename_i hs; exact many hg n (hg (h.see hs))
    · exact h
theorem back {r : Rd} (h : Iv r) (ho : r.isOpen = true) : Iv r.back := ⟨by have := h.le; show r.i - 1 ≤ _; exact Nat.le_trans (Nat.sub_le _ _) this, fun _ => by
  unfold Rd.isOpen at ho; simp at ho; exact ho.2⟩
theorem actR {r : Rd} (h : Iv r) : Iv r.actR.2 := by
  unfold Rd.actR
  split
  · rename_i hs
    dsimp only
    split
    · rename_i hc
      simp only [Bool.and_eq_true] at hc
      exact (h.see hs).num.back hc.1
    · exact (h.see hs).num
  · dsimp only
    split
    · rename_i hs; exact (many expr _ ((h.want _ _).name.see hs).expr).want _ _
    · exact (h.want _ _).name
theorem rule {r : Rd} (h : Iv r) : Iv r.rule.2 := (many actR _ ((many condR _ (((h.want _ _).name.num.want _ _).condR)).want _ _).actR).want _ _
end Iv
/-- the page's ReadRule -/
def refReadR (l : List Tok) (i : Nat) : Rul × Nat × Int :=
  let x := (⟨l, i, true⟩ : Rf).ruleF
  if x.2.1 then (zeroR, i, 7) else if x.2.2.ok then (if ruleOk x.1 then (x.1, x.2.2.i, 0) else (zeroR, i, 7)) else (zeroR, x.2.2.i, 7)
theorem readR_ref {l : List Tok} {i : Nat} (hi : i ≤ l.length) : readR l i = refReadR l i := by
  have h : Sim (rd0 l i) ⟨l, i, true⟩ := ⟨rfl, rfl, rfl, rfl⟩
  have hv : Iv (rd0 l i) := ⟨hi, fun h => by cases h⟩
  have hv2 := hv.rule
  have hs := rule_sim h
  have hw : (rd0 l i).wrong = false := rfl
  rw [hw] at hs
  unfold readR refReadR Rd.endE Rd.endI
  dsimp only
  generalize (rd0 l i).rule = x at *
  generalize (⟨l, i, true⟩ : Rf).ruleF = y at *
  rcases hs with ⟨a, b⟩ | ⟨a, b, c⟩
  · have hb : x.2.bad = false := by
      cases hb : x.2.bad with
      | false => rfl
      | true => have := hv2.nb hb; rw [a] at this; cases this
    rw [b, a, hb]
    simp
  · have hxi := b.i
    rw [a, b.over, b.bad, if_neg (by simp : ¬ false = true)]
    cases ho : y.2.2.ok with
    | false =>
      have : min x.2.i x.2.l.length = y.2.2.i := by rw [Nat.min_eq_left hv2.le, hxi]
      simp [this]
    | true =>
      rcases c ho with ⟨c1, c2⟩ | ⟨c1, c2⟩
      · rw [c1]
        cases hwr : x.2.wrong with
        | true => simp
        | false =>
          rw [hwr] at c2
          simp only [Bool.false_eq_true, false_or] at c2
          simp [c2]
      · rw [c2, ← c1]
        simp [hxi]
end Go.PV
namespace Go.PV
open Go
/-! patterns -/
structure Pat where
  n : Bs
  t : Atm
  l : List Nod
abbrev Pat.v (p : Pat) : List V := [.str p.n, .str p.t.n, .sl 4 (trmV p.t.a), .sl 5 (nodV p.l)]
instance : DecidableEq Pat := fun a b => decidable_of_iff (a.n = b.n ∧ a.t = b.t ∧ a.l = b.l) (by cases a; cases b; simp)
def zeroP : Pat := ⟨[], zeroA, []⟩
def patOk (p : Pat) : Bool := nameS p.n && (atomOk p.t && fmlOk p.l)
def patW : Bs := [112, 97, 116, 116, 101, 114, 110]
def patT (p : Pat) : Bs := patW ++ [32] ++ p.n ++ [58, 32] ++ atomT p.t ++ [32, 61, 62, 32] ++ fmlT p.l ++ [46]
def fmlE (l : List Nod) : Int := if fmlOk l then (if 20000 < (fmlT l).length then 2 else 0) else 17
def fmlX (l : List Nod) : Bs := if fmlE l = 0 then fmlT l else []
def patE (p : Pat) : Int := if patOk p then (if 20000 < (patT p).length then 2 else 0) else 17
def patX (p : Pat) : Bs := if patE p = 0 then patT p else []
def patR (r : Rd) : Pat × Rd :=
  let n := (r.want 1 patW).name
  let t := (n.2.want 5 [58]).atom
  let f := (t.2.want 5 [61, 62]).formula
  (⟨n.1, t.1, f.2.1⟩, f.2.2.want 5 [46])
def readF (l : List Tok) (i : Nat) : List Nod × Nat × Int :=
  let x := (rd0 l i).formula
  if x.2.2.endE = 0 then (if fmlOk x.2.1 then (x.2.1, x.2.2.endI i, 0) else ([], i, 7)) else ([], x.2.2.endI i, 7)
def readP (l : List Tok) (i : Nat) : Pat × Nat × Int :=
  let x := patR (rd0 l i)
  if x.2.endE = 0 then (if patOk x.1 then (x.1, x.2.endI i, 0) else (zeroP, i, 7)) else (zeroP, x.2.endI i, 7)
theorem FT.txt_len : ∀ {T : FT}, T.ok = true → T.txt.length ≤ 710 * T.size
  | .at_ a, h => by have := atomT_len (a := a) h; simp only [txt, size]; omega
  | .one k t, h => by
    simp only [ok, Bool.and_eq_true, decide_eq_true_eq] at h
    have := FT.txt_len h.2
    have hw : (wordT k).length ≤ 6 := by unfold wordT; (repeat' split) <;> decide
    simp only [txt, size, List.length_append, List.length_cons, List.length_nil]; omega
  | .two k s t, h => by
    simp only [ok, Bool.and_eq_true, decide_eq_true_eq] at h
    have := FT.txt_len h.2.1
    have := FT.txt_len h.2.2
    have hw : (wordT k).length ≤ 6 := by unfold wordT; (repeat' split) <;> decide
    simp only [txt, size, List.length_append, List.length_cons, List.length_nil]; omega
theorem fmlT_len {l : List Nod} (h : fmlOk l = true) : (fmlT l).length ≤ 28400 := by
  obtain ⟨T, h1, h2, h3, h4⟩ := fml_tree h
  rw [h2, fmlT_tree h1]
  have := FT.txt_len h1
  omega
theorem patOk_all {p : Pat} (h : patOk p = true) : nameS p.n = true ∧ atomOk p.t = true ∧ fmlOk p.l = true := by
  unfold patOk at h; simp only [Bool.and_eq_true] at h; exact ⟨h.1, h.2.1, h.2.2⟩
theorem patT_len {p : Pat} (h : patOk p = true) : (patT p).length ≤ 30000 ∧ (fmlT p.l).length ≤ (patT p).length ∧ (atomT p.t).length ≤ 700 ∧ p.n.length ≤ 24 ∧ (fmlT p.l).length ≤ 28400 := by
  obtain ⟨h1, h2, h3⟩ := patOk_all h
  have := name_len h1
  have := atomT_len h2
  have := fmlT_len h3
  unfold patT patW
  simp only [List.length_append, List.length_cons, List.length_nil]; omega
def patK (b n : Bs) (t : Atm) (T : FT) : List (Bs × KT) := (b, (1, patW)) :: ([32], (1, n)) :: ([], (5, [58])) :: (atomK [32] t ++ ([32], (5, [61, 62])) :: (T.toks [32] ++ [([], (5, [46]))]))
theorem patK_T (b n : Bs) (t : Atm) (T : FT) : weaveK (patK b n t T) = b ++ (patW ++ [32] ++ n ++ [58, 32] ++ atomT t ++ [32, 61, 62, 32] ++ T.txt ++ [46]) := by
  unfold patK
  simp only [weaveK, weaveK_app, weave_atom, FT.weave_toks]
  simp
theorem pat_ne : nameS patW = false := by decide +kernel
theorem wov_pat {n : Bs} {t : Atm} {T : FT} (hn : nameS n = true) (ht : atomOk t = true) (hT : T.ok = true) {b tail : Bs} (hb : blk b = true) (hs : stopH tail = true) : WovK tail (patK b n t T) := by
  refine ⟨hb, by unfold Tk; decide +kernel, okEnd_stop rfl, rfl, tk_word (large := false) (nameS_word hn), okEnd_stop rfl, rfl, by unfold Tk; decide +kernel, ?_, WovK.app (wov_atom rfl rfl ht) ⟨rfl, by unfold Tk; decide +kernel, ?_, WovK.app (FT.wov hT [32] _ rfl rfl) ⟨rfl, by unfold Tk; decide +kernel, okEnd_stop hs, trivial⟩⟩⟩
  · rw [weaveK_app, weave_atom]; exact okEnd_stop rfl
  · rw [weaveK_app, FT.weave_toks]; exact okEnd_stop rfl
theorem pat_rest {r : Rd} {n : Bs} {t : Atm} {T : FT} {b : Bs} {m : List KT} (hn : nameS n = true) (ht : atomOk t = true) (hT : T.ok = true) (ho : r.isOpen = true) (hr : r.rest = (patK b n t T).map (·.2) ++ m) : patR r = (⟨n, t, T.nodes 0⟩, r.adv (patK b n t T).length) := by
  have hr : r.rest = (1, patW) :: (1, n) :: (5, [58]) :: ((atomK [32] t).map (·.2) ++ (5, [61, 62]) :: ((T.toks [32]).map (·.2) ++ (5, [46]) :: m)) := by rw [hr]; simp [patK]
  have c1 := Rd.rest_cons hr
  have c2 := Rd.rest_cons c1.2
  have c3 := Rd.rest_cons c2.2
  have w1 := Rd.want_rest ho hr
  have w2 := Rd.name_rest (r := r.step) ho c1.2 hn
  have w3 := Rd.want_rest (r := r.step.step) ho c2.2
  have w4 := Rd.atom_rest (r := r.step.step.step) ho ht c3.2 (fun _ => by simp)
  have d1 := adv_rest c3.2
  rw [List.length_map] at d1
  have w5 := Rd.want_rest (r := r.step.step.step.adv (atomK [32] t).length) ho d1
  have d2 := (Rd.rest_cons d1).2
  have w6 := Rd.formula_rest (r := (r.step.step.step.adv (atomK [32] t).length).step) hT ho d2 (by simp)
  have d3 := adv_rest d2
  rw [List.length_map] at d3
  have w7 := Rd.want_rest (r := (r.step.step.step.adv (atomK [32] t).length).step.adv (T.toks [32]).length) ho d3
  dsimp only at w1 w3 w5 w7
  unfold patR
  dsimp only
  rw [w1, w2]
  dsimp only
  rw [w3, w4]
  dsimp only
  rw [w5, w6]
  dsimp only
  rw [w7]
  refine Prod.ext rfl ?_
  simp only [Rd.adv, Rd.step, patK, List.length_cons, List.length_append, List.length_nil]
  congr 1; omega
theorem readP_back {l : List Tok} {i : Nat} {n : Bs} {t : Atm} {T : FT} {b : Bs} {m : List KT} (hn : nameS n = true) (ht : atomOk t = true) (hT : T.ok = true) (hk : fmlOk (T.nodes 0) = true) (hr : (l.drop i).map kt = (patK b n t T).map (·.2) ++ m) : readP l i = (⟨n, t, T.nodes 0⟩, i + (patK b n t T).length, 0) := by
  have e := pat_rest (r := rd0 l i) hn ht hT rfl hr
  unfold readP
  rw [e]
  dsimp only
  rw [if_pos (show ((rd0 l i).adv (patK b n t T).length).endE = 0 from rfl), if_pos (by unfold patOk; rw [hn, ht, hk]; rfl)]
  rfl
theorem lex_pat {n : Bs} {t : Atm} {T : FT} (hn : nameS n = true) (ht : atomOk t = true) (hT : T.ok = true) {q : List (Bs × KT)} (hq : WovK [] q) (hs : stopH (weaveK q) = true) :
    errR (weaveK (patK [] n t T) ++ weaveK q) = 0 ∧ (toksR (weaveK (patK [] n t T) ++ weaveK q)).map kt = (patK [] n t T).map (·.2) ++ q.map (·.2) := by
  have hw := WovK.app (tail := []) (a := patK [] n t T) (b := q) (by rw [List.append_nil]; exact wov_pat hn ht hT rfl hs) hq
  obtain ⟨h1, h2, _⟩ := wovK_R hw rfl
  rw [List.append_nil, weaveK_app] at h1 h2
  exact ⟨h2, by rw [h1, posL_kt, List.map_append]⟩
theorem parse_pat {p : Pat} (h : patOk p = true) : errR (patT p) = 0 ∧ readP (toksR (patT p)) 0 = (p, (toksR (patT p)).length, 0) := by
  obtain ⟨h1, h2, h3⟩ := patOk_all h
  obtain ⟨T, t1, t2, t3, t4⟩ := fml_tree h3
  have e : weaveK (patK [] p.n p.t T) = patT p := by
    rw [patK_T, List.nil_append]; unfold patT; rw [t2, fmlT_tree t1]
  have h4 := lex_pat h1 h2 t1 (q := []) trivial rfl
  have e2 : weaveK (patK [] p.n p.t T) ++ weaveK [] = patT p := by rw [e]; exact List.append_nil _
  rw [e2] at h4
  have h5 := readP_back (l := toksR (patT p)) (i := 0) (m := []) h1 h2 t1 (by rw [← t2]; exact h3) (by rw [List.drop_zero]; exact h4.2)
  have h6 : (toksR (patT p)).length = (patK [] p.n p.t T).length := by have := congrArg List.length h4.2; simpa using this
  refine ⟨h4.1, ?_⟩
  rw [h5, h6, Nat.zero_add, ← t2]
theorem patT_inj {a b : Pat} (ha : patOk a = true) (hb : patOk b = true) : decide (patT a = patT b) = decide (a = b) := by
  rw [decide_eq_decide]
  refine ⟨fun h => ?_, fun h => by rw [h]⟩
  have h1 := (parse_pat ha).2
  rw [h, (parse_pat hb).2] at h1
  exact (congrArg Prod.fst h1).symm
theorem parse_fml {l : List Nod} (h : fmlOk l = true) : errR (fmlT l) = 0 ∧ readF (toksR (fmlT l)) 0 = (l, (toksR (fmlT l)).length, 0) := by
  obtain ⟨T, t1, t2, t3, t4⟩ := fml_tree h
  have hw := FT.wov t1 [] [] rfl rfl
  obtain ⟨h1, h2, _⟩ := wovK_R (tail := []) hw rfl
  rw [FT.weave_toks, List.nil_append, List.append_nil] at h1 h2
  have e : fmlT l = T.txt := by rw [t2, fmlT_tree t1]
  rw [← e] at h1 h2
  have h4 : (toksR (fmlT l)).map kt = (T.toks []).map (·.2) := by rw [h1, posL_kt]
  have h6 : (toksR (fmlT l)).length = (T.toks []).length := by have := congrArg List.length h4; simpa using this
  have h5 := Rd.formula_rest (r := rd0 (toksR (fmlT l)) 0) (T := T) (b := []) (m := []) t1 rfl (by show ((toksR (fmlT l)).drop 0).map kt = _; rw [List.drop_zero, h4, List.append_nil]) (by simp)
  refine ⟨h2, ?_⟩
  unfold readF
  rw [h5]
  dsimp only
  rw [if_pos (show ((rd0 (toksR (fmlT l)) 0).adv (T.toks []).length).endE = 0 from rfl), if_pos (by rw [← t2]; exact h), h6, ← t2]
  refine Prod.ext rfl (Prod.ext ?_ rfl)
  show 0 + (T.toks []).length = (T.toks []).length
  omega
/-! what is read is right -/
namespace Iv
theorem words : ∀ (L : List (Int × Bs)) {r : Rd}, Iv r → Iv (Rd.wordsR L r).2
  | [], _, h => h
  | (k, s) :: L, r, h => by
    unfold Rd.wordsR
    split
    · rename_i hs; exact h.see hs
    · exact words L h
theorem beg : ∀ (f : Nat) {r : Rd} (st : List Frm), Iv r → Iv (Rd.beg f r st).2
  | 0, _, _, h => h
  | f + 1, r, st, h => by
    unfold Rd.beg
    split
    · split
      · rename_i hs; exact beg f _ (h.see hs)
      · exact h
    · exact beg f _ (words _ h)
theorem clo : ∀ (st : List Frm) (l : List Nod) {r : Rd}, Iv r → Iv (Rd.clo st l r).2.2.2
  | [], _, _, h => h
  | (k, a) :: st, l, r, h => by
    unfold Rd.clo
    split
    · rename_i ho
      split
      · exact clo st _ h
      · split
        · exact clo st _ (h.want _ _)
        · split
          · exact h.fail ho
          · exact words _ h
    · exact h
theorem forG : ∀ (f : Nat) {r : Rd} (st : List Frm) (l : List Nod), Iv r → Iv (Rd.forG f r st l).2.2
  | 0, _, _, _, h => h
  | f + 1, r, st, l, h => by
    unfold Rd.forG
    split
    · have h2 := clo (Rd.beg (r.l.length + 1) r st).1 (l ++ [⟨1, (Rd.beg (r.l.length + 1) r st).2.atom.1, 0, 0⟩]) (beg (r.l.length + 1) st h).atom
      dsimp only
      split
      · exact h2
      · exact forG f _ _ h2
    · exact h
theorem formula {r : Rd} (h : Iv r) : Iv r.formula.2.2 := forG _ _ _ h
theorem pat {r : Rd} (h : Iv r) : Iv (patR r).2 := ((((h.want _ _).name.want _ _).atom.want _ _).formula).want _ _
end Iv
namespace Rd
theorem words_open : ∀ {L : List (Int × Bs)} {r : Rd}, (wordsR L r).2.isOpen = true → r.isOpen = true
  | [], _, h => h
  | (k, s) :: L, r, h => by
    unfold wordsR at h
    split at h
    · exact h
    · exact words_open h
theorem clo_open : ∀ (st : List Frm) (l : List Nod) {r : Rd}, (clo st l r).2.2.2.isOpen = true → r.isOpen = true
  | [], _, _, h => h
  | (k, a) :: st, l, r, h => by
    unfold clo at h
    split at h
    · assumption
    · exact h
theorem beg_open : ∀ (f : Nat) {r : Rd} (st : List Frm), (beg f r st).2.isOpen = true → r.isOpen = true
  | 0, _, _, h => h
  | f + 1, r, st, h => by
    unfold beg at h
    split at h
    · split at h
      · exact beg_open f (r := r.step) _ h
      · exact h
    · exact words_open (beg_open f _ h)
theorem formula_up {r : Rd} (h : r.formula.2.2.isOpen = true) (ho : r.isOpen = true) : r.i < r.formula.2.2.i := by
  unfold formula at *
  rw [forG, if_pos ho] at *
  dsimp only at *
  have h1 := beg_l (r.l.length + 1) r []
  have h3 := clo_l (beg (r.l.length + 1) r []).1 ([] ++ [⟨1, (beg (r.l.length + 1) r []).2.atom.1, 0, 0⟩]) (beg (r.l.length + 1) r []).2.atom.2
  have h4 := @clo_open (beg (r.l.length + 1) r []).1 ([] ++ [⟨1, (beg (r.l.length + 1) r []).2.atom.1, 0, 0⟩]) (beg (r.l.length + 1) r []).2.atom.2
  have h2 := @atom_open (beg (r.l.length + 1) r []).2
  generalize clo (beg (r.l.length + 1) r []).1 ([] ++ [⟨1, (beg (r.l.length + 1) r []).2.atom.1, 0, 0⟩]) (beg (r.l.length + 1) r []).2.atom.2 = c at *
  have hm : ∀ (f : Nat) (q : Rd) (st : List Frm) (l : List Nod), (forG f q st l).2.2.isOpen = true → q.isOpen = true := fun f q st l hq => by
    cases f with
    | zero => exact hq
    | succ f =>
      unfold forG at hq
      split at hq
      · assumption
      · exact hq
  split
  · rename_i hc
    rw [if_pos hc] at h
    have := (h2 (h4 h)).2.2.1
    dsimp only
    omega
  · rename_i hc
    rw [if_neg hc] at h
    have := (h2 (h4 (hm _ _ _ _ h))).2.2.1
    have := (forG_l r.l.length c.2.2.2 c.2.1 c.2.2.1).2
    omega
end Rd
theorem readF_ok {l : List Tok} {i : Nat} (hi : i ≤ l.length) (h : (readF l i).2.2 = 0) : fmlOk (readF l i).1 = true ∧ i < (readF l i).2.1 ∧ (readF l i).2.1 ≤ l.length := by
  have hr := @Rd.formula_up (rd0 l i)
  have hv := Iv.formula (r := rd0 l i) ⟨hi, fun h => by cases h⟩
  have hl := (Rd.formula_l (rd0 l i)).1
  unfold readF at *
  dsimp only at h ⊢
  generalize (rd0 l i).formula = x at *
  by_cases he : x.2.2.endE = 0
  · rw [if_pos he] at h ⊢
    by_cases hk : fmlOk x.2.1 = true
    · rw [if_pos hk] at h ⊢
      obtain ⟨e1, e2, e3⟩ := endE_0 he
      have hle := hv.le
      rw [hl] at hle
      exact ⟨hk, by rw [e3]; exact hr e1 rfl, by rw [e3]; exact hle⟩
    · rw [if_neg hk] at h; simp at h
  · rw [if_neg he] at h; simp at h
theorem pat_l (r : Rd) : (patR r).2.l = r.l ∧ r.i ≤ (patR r).2.i := by
  unfold patR
  have e0 := Rd.want_l r 1 patW
  have e1 := Rd.name_l (r.want 1 patW)
  dsimp only
  generalize (r.want 1 patW).name = v1 at *
  have e2 := Rd.want_l v1.2 5 [58]
  generalize v1.2.want 5 [58] = v2 at *
  have e3 := Rd.atom_l v2
  generalize v2.atom = v3 at *
  have e4 := Rd.want_l v3.2 5 [61, 62]
  generalize v3.2.want 5 [61, 62] = v4 at *
  have e5 := Rd.formula_l v4
  generalize v4.formula = v5 at *
  have e6 := Rd.want_l v5.2.2 5 [46]
  exact ⟨by rw [e6.1, e5.1, e4.1, e3.1, e2.1, e1.1, e0.1], by omega⟩
theorem pat_up {r : Rd} (h : (patR r).2.isOpen = true) : r.i < (patR r).2.i := by
  unfold patR at *
  have e0 := Rd.want_l r 1 patW
  have e1 := Rd.name_l (r.want 1 patW)
  dsimp only at h ⊢
  generalize (r.want 1 patW).name = v1 at *
  have e2 := Rd.want_l v1.2 5 [58]
  generalize v1.2.want 5 [58] = v2 at *
  have e3 := Rd.atom_l v2
  generalize v2.atom = v3 at *
  have e4 := Rd.want_l v3.2 5 [61, 62]
  generalize v3.2.want 5 [61, 62] = v4 at *
  have e5 := Rd.formula_l v4
  generalize v4.formula = v5 at *
  have e6 := Rd.want_op h
  omega
theorem readP_ok {l : List Tok} {i : Nat} (hi : i ≤ l.length) (h : (readP l i).2.2 = 0) : patOk (readP l i).1 = true ∧ i < (readP l i).2.1 ∧ (readP l i).2.1 ≤ l.length := by
  have hr := @pat_up (rd0 l i)
  have hv := Iv.pat (r := rd0 l i) ⟨hi, fun h => by cases h⟩
  have hl := (pat_l (rd0 l i)).1
  unfold readP at *
  dsimp only at h ⊢
  generalize patR (rd0 l i) = x at *
  by_cases he : x.2.endE = 0
  · rw [if_pos he] at h ⊢
    by_cases hk : patOk x.1 = true
    · rw [if_pos hk] at h ⊢
      obtain ⟨e1, e2, e3⟩ := endE_0 he
      have hle := hv.le
      rw [hl] at hle
      exact ⟨hk, by rw [e3]; exact hr e1, by rw [e3]; exact hle⟩
    · rw [if_neg hk] at h; simp at h
  · rw [if_neg he] at h; simp at h
end Go.PV
namespace Go.PV
open Go
/-! facts of a formula's nodes -/
def AccB (a : List (Nat × Nat)) : Prop := ∀ (j : Nat) (p : Nat × Nat), a[j]? = some p → p.1 ≤ j ∧ p.2 ≤ j + 1
theorem last_at {a : List (Nat × Nat)} {p : Nat × Nat} (h : a.getLast? = some p) : 1 ≤ a.length ∧ a[a.length - 1]? = some p := by
  rw [List.getLast?_eq_getElem?] at h
  exact ⟨by have := (List.getElem?_eq_some_iff.1 h).1; omega, h⟩
theorem nod_cases {a : List (Nat × Nat)} {o : Nod} {p : Nat × Nat} (hB : AccB a) (h : nodS a o = some p) :
    (armsN o.k = 0 ∧ o.x = 0 ∧ o.y = 0 ∧ atomOk o.a = true ∧ p = (a.length, 1)) ∨
    (armsN o.k = 1 ∧ 1 ≤ a.length ∧ o.x = (a.length : Int) - 1 ∧ o.y = 0 ∧ o.a = zeroA ∧ ∃ q, a[a.length - 1]? = some q ∧ p = (q.1, q.2 + 1)) ∨
    (armsN o.k = 2 ∧ 1 ≤ a.length ∧ o.y = (a.length : Int) - 1 ∧ o.a = zeroA ∧ ∃ q s, a[a.length - 1]? = some q ∧ 1 ≤ q.1 ∧ q.1 < a.length ∧ o.x = (q.1 : Int) - 1 ∧ a[q.1 - 1]? = some s ∧ p = (s.1, max s.2 q.2 + 1)) := by
  unfold nodS at h
  split at h
  · rename_i h0
    split at h
    · rename_i hc
      cases h
      exact .inl ⟨h0, hc.1, hc.2.1, hc.2.2, rfl⟩
    · cases h
  · split at h
    · rename_i h1
      split at h
      · rename_i q hq
        obtain ⟨l1, l2⟩ := last_at hq
        split at h
        · rename_i hc
          cases h
          exact .inr (.inl ⟨h1, l1, hc.1, hc.2.1, hc.2.2, q, l2, rfl⟩)
        · cases h
      · cases h
    · split at h
      · rename_i h2
        split at h
        · rename_i q hq
          obtain ⟨l1, l2⟩ := last_at hq
          split at h
          · rename_i hc
            split at h
            · rename_i s hs
              cases h
              have := (hB _ _ l2).1
              exact .inr (.inr ⟨h2, l1, hc.1, hc.2.2.2, q, s, l2, hc.2.1, by omega, hc.2.2.1, hs, rfl⟩)
            · cases h
          · cases h
        · cases h
      · cases h
theorem accB_nil : AccB [] := fun j p h => by simp at h
theorem accB_snoc {a : List (Nat × Nat)} {o : Nod} {p : Nat × Nat} (hB : AccB a) (h : nodS a o = some p) : AccB (a ++ [p]) := by
  intro j q hj
  rw [List.getElem?_append] at hj
  split at hj
  · exact hB j q hj
  · rename_i hge
    cases hz : j - a.length with
    | succ m => rw [hz] at hj; simp at hj
    | zero =>
      rw [hz] at hj
      simp only [List.getElem?_cons_zero, Option.some.injEq] at hj
      subst hj
      have e : j = a.length := by omega
      subst e
      rcases nod_cases hB h with ⟨_, _, _, _, rfl⟩ | ⟨_, h1, _, _, _, q, hq, rfl⟩ | ⟨_, h1, _, _, q, s, hq, h2, h3, _, hs, rfl⟩
      · exact ⟨Nat.le_refl _, by dsimp only; omega⟩
      · have := hB _ _ hq; dsimp only; omega
      · have := hB _ _ hq; have := hB _ _ hs; dsimp only; omega
theorem fromsGo_step {a : List (Nat × Nat)} {l : List Nod} {k : Nat} (hk : k < l.length) : fromsGo a (l.drop k) = (match nodS a l[k] with | some p => fromsGo (a ++ [p]) (l.drop (k + 1)) | none => none) := by
  rw [List.drop_eq_getElem_cons hk, fromsGo]
  cases nodS a l[k] <;> rfl
theorem fromsGo_len : ∀ {l : List Nod} {a b : List (Nat × Nat)}, fromsGo a l = some b → b.length = a.length + l.length ∧ ∃ t, b = a ++ t
  | [], a, b, h => by simp only [fromsGo, Option.some.injEq] at h; subst h; exact ⟨rfl, [], by simp⟩
  | o :: l, a, b, h => by
    simp only [fromsGo] at h
    split at h
    · rename_i p hp
      obtain ⟨h1, t, h2⟩ := fromsGo_len h
      exact ⟨by rw [h1]; simp; omega, p :: t, by rw [h2]; simp⟩
    · cases h
theorem fromsGo_B : ∀ {l : List Nod} {a b : List (Nat × Nat)}, AccB a → fromsGo a l = some b → AccB b
  | [], a, b, hB, h => by simp only [fromsGo, Option.some.injEq] at h; subst h; exact hB
  | o :: l, a, b, hB, h => by
    simp only [fromsGo] at h
    split at h
    · rename_i p hp; exact fromsGo_B (accB_snoc hB hp) h
    · cases h
theorem froms_at {l : List Nod} {b : List (Nat × Nat)} (h : fromsS l = some b) {k : Nat} (hk : k < l.length) : ∃ p, nodS (b.take k) l[k] = some p ∧ b[k]? = some p ∧ (b.take k).length = k ∧ AccB (b.take k) := by
  have e : fromsS l = (fromsGo [] (l.take k)).bind fun a => fromsGo a (l.drop k) := by rw [← fromsGo_app, List.take_append_drop]; rfl
  rw [h] at e
  cases ha : fromsGo [] (l.take k) with
  | none => rw [ha] at e; cases e
  | some a =>
    rw [ha, Option.bind_some, fromsGo_step hk] at e
    obtain ⟨l1, _⟩ := fromsGo_len ha
    rw [List.length_take, List.length_nil] at l1
    have l1 : a.length = k := by omega
    have hB := fromsGo_B accB_nil ha
    cases hn : nodS a l[k] with
    | none => rw [hn] at e; cases e
    | some p =>
      rw [hn] at e
      obtain ⟨_, t, h2⟩ := fromsGo_len e.symm
      have e1 : b.take k = a := by rw [h2, List.append_assoc, List.take_append_of_le_length (by omega), List.take_of_length_le (by omega)]
      refine ⟨p, by rw [e1]; exact hn, ?_, by rw [e1]; exact l1, by rw [e1]; exact hB⟩
      rw [h2, List.append_assoc, List.getElem?_append_right (by omega), l1, Nat.sub_self]; rfl
theorem FT.txts_b : ∀ {T : FT}, T.ok = true → ∀ s ∈ T.txts, s.length ≤ 710 * T.size
  | .at_ a, h, s, hs => by simp [txts] at hs; subst hs; exact FT.txt_len (T := .at_ a) h
  | .one k t, h, s, hs => by
    have hh := h
    simp only [ok, Bool.and_eq_true, decide_eq_true_eq] at hh
    rcases List.mem_append.1 hs with hs | hs
    · have := FT.txts_b hh.2 s hs; simp only [size]; omega
    · simp at hs; subst hs; exact FT.txt_len h
  | .two k x t, h, s, hs => by
    have hh := h
    simp only [ok, Bool.and_eq_true, decide_eq_true_eq] at hh
    rcases List.mem_append.1 hs with hs | hs
    · rcases List.mem_append.1 hs with hs | hs
      · have := FT.txts_b hh.2.1 s hs; simp only [size]; omega
      · have := FT.txts_b hh.2.2 s hs; simp only [size]; omega
    · simp at hs; subst hs; exact FT.txt_len h
theorem txGo_len : ∀ (l : List Nod) (a : List Bs), (txGo a l).length = a.length + l.length ∧ ∃ t, txGo a l = a ++ t
  | [], a => ⟨rfl, [], by simp [txGo]⟩
  | o :: l, a => by
    obtain ⟨h1, t, h2⟩ := txGo_len l (a ++ [nodT a o])
    exact ⟨by rw [txGo, h1]; simp; omega, nodT a o :: t, by rw [txGo, h2]; simp⟩
theorem txGo_step (l : List Nod) {k : Nat} (hk : k < l.length) : txGo [] (l.take (k + 1)) = txGo [] (l.take k) ++ [nodT (txGo [] (l.take k)) l[k]] := by
  rw [← List.take_append_getElem hk, txGo_app]; rfl
theorem tx_b {l : List Nod} (h : fmlOk l = true) (k : Nat) : ∀ s ∈ txGo [] (l.take k), s.length ≤ 28400 := by
  obtain ⟨T, h1, h2, h3, h4⟩ := fml_tree h
  have h5 := FT.tx h1 []
  simp only [List.length_nil, List.nil_append] at h5
  rw [← h2] at h5
  intro s hs
  have e : txGo [] l = txGo (txGo [] (l.take k)) (l.drop k) := by rw [← txGo_app, List.take_append_drop]
  obtain ⟨_, t, h6⟩ := txGo_len (l.drop k) (txGo [] (l.take k))
  have : s ∈ T.txts := by rw [← h5, e, h6]; exact List.mem_append_left _ hs
  have := FT.txts_b h1 s this
  omega
theorem fmlOk_froms {l : List Nod} (h : fmlOk l = true) : 1 ≤ l.length ∧ l.length ≤ 40 ∧ ∃ b, fromsS l = some b := by
  unfold fmlOk at h
  simp only [Bool.and_eq_true, decide_eq_true_eq] at h
  obtain ⟨h1, h2⟩ := h
  split at h2
  · rename_i b hb; exact ⟨h1.1, h1.2, b, hb⟩
  · cases h2
/-- where a node's own begin -/
def fromN (l : List Nod) (i : Int) : Int := if fmlOk l && decide (0 ≤ i ∧ i < l.length) then (match fromsS l with | some b => (match b[i.toNat]? with | some p => (p.1 : Int) | none => -1) | none => -1) else -1
def nodB (o : Nod) : Prop := o.a.n.length ≤ 1000000 ∧ o.a.a.length ≤ 1000000 ∧ ∀ t ∈ o.a.a, t.v.length ≤ 1000000 ∧ t.x.s.length ≤ 1000000
end Go.PV
namespace Go.PV
open Go Go.Proofs
set_option maxRecDepth 100000
theorem arms_good (k : Int) : Good Tryz.prog 141 [.int .i64 k] [] [.int .i64 (armsN k)] [] := by
  refine good_of hP Tryz.func141 (by kernel_rfl) (lv := [0, 2, 3, 4, 6, 11]) (js := []) ⟨rfl, rfl, rfl, rfl, rfl, rfl, _, rfl, ?_⟩
  by_cases hk : 1 ≤ k ∧ k ≤ 8
  · have h8 : k = 1 ∨ k = 2 ∨ k = 3 ∨ k = 4 ∨ k = 5 ∨ k = 6 ∨ k = 7 ∨ k = 8 := by omega
    rcases h8 with rfl | rfl | rfl | rfl | rfl | rfl | rfl | rfl
    all_goals
      conv => whnf
      exact fin0 rfl trivial
  · have e : armsN k = -1 := by rcases arms_cases k with h | h | h | h <;> omega
    rw [e]
    conv => whnf
    refine branch_of (fun h => ?_) (fun h => ?_)
    · exact absurd (of_decide_eq_true h) (by omega)
    conv => whnf
    refine branch_of (fun h => ?_) (fun h => ?_)
    · exact absurd (of_decide_eq_true h) (by omega)
    conv => whnf
    refine branch_of (fun h => ?_) (fun h => ?_)
    · exact absurd (of_decide_eq_true h) (by omega)
    conv => whnf
    refine branch_of (fun h => ?_) (fun h => ?_)
    · exact absurd (of_decide_eq_true h) (by omega)
    conv => whnf
    refine branch_of (fun h => ?_) (fun h => ?_)
    · exact absurd (of_decide_eq_true h) (by omega)
    conv => whnf
    refine branch_of (fun h => ?_) (fun h => ?_)
    · exact absurd (of_decide_eq_true h) (by omega)
    conv => whnf
    refine branch_of (fun h => ?_) (fun h => ?_)
    · exact absurd (of_decide_eq_true h) (by omega)
    conv => whnf
    refine branch_of (fun h => ?_) (fun h => ?_)
    · exact absurd (of_decide_eq_true h) (by omega)
    conv => whnf
    exact fin0 rfl trivial
theorem empty_good (a : Atm) : Good Tryz.prog 143 [.agg a.c] [] [.bool (decide (a = zeroA))] [] := by
  obtain ⟨n, l⟩ := a
  refine good_of hP Tryz.func143 (by kernel_rfl) (lv := [0, 1, 2]) (js := []) ⟨rfl, rfl, rfl, rfl, rfl, rfl, _, rfl, ?_⟩
  conv => whnf
  refine branch_of (fun h => ?_) (fun h => ?_)
  · have h : n = [] := of_decide_eq_true h
    subst h
    conv => whnf
    refine fin0 ?_ trivial
    cases l with
    | nil => rfl
    | cons x r =>
      have e : decide ((⟨[], x :: r⟩ : Atm) = zeroA) = false := decide_eq_false (by intro e; injection e with _ e; cases e)
      rw [e]
      have e2 : decide ((((x :: r).map Trm.c).length : Int) = 0) = false := decide_eq_false (by rw [List.length_map, List.length_cons]; omega)
      rw [e2]
  · have h : ¬ n = [] := of_decide_eq_false h
    have e : decide ((⟨n, l⟩ : Atm) = zeroA) = false := decide_eq_false (by intro e; injection e with e _; exact h e)
    rw [e]
    conv => whnf
    exact fin0 rfl trivial
def onesM : MD := .i [(2, .str [110, 111, 116]), (5, .str [98, 101, 102, 111, 114, 101]), (6, .str [111, 110, 99, 101]), (7, .str [97, 108, 119, 97, 121, 115])]
def twosM : MD := .i [(3, .str [97, 110, 100]), (4, .str [111, 114]), (8, .str [115, 105, 110, 99, 101])]
theorem ones_good : Good Tryz.prog 144 [] [] [.mp 0 0] [.box 0 [.md onesM]] := by
  refine good_of hP Tryz.func144 (by kernel_rfl) (lv := [0]) (js := []) ⟨rfl, rfl, rfl, rfl, rfl, rfl, _, rfl, ?_⟩
  conv => whnf
  refine ⟨[(65, 0)], rfl, ?_⟩
  conv => whnf
  exact ⟨⟨⟩, rfl, trivial⟩
theorem twos_good : Good Tryz.prog 145 [] [] [.mp 0 0] [.box 0 [.md twosM]] := by
  refine good_of hP Tryz.func145 (by kernel_rfl) (lv := [0]) (js := []) ⟨rfl, rfl, rfl, rfl, rfl, rfl, _, rfl, ?_⟩
  conv => whnf
  refine ⟨[(65, 0)], rfl, ?_⟩
  conv => whnf
  exact ⟨⟨⟩, rfl, trivial⟩
abbrev frV (a : List (Nat × Nat)) : List (List V) := a.map fun p => [.int .i64 p.1]
abbrev dpV (a : List (Nat × Nat)) : List (List V) := a.map fun p => [.int .i64 p.2]
theorem froms_good (l : List Nod) (hl : l.length ≤ 1000000) (hb : ∀ o ∈ l, nodB o) : Good Tryz.prog 80 [.sl 5 (nodV l)] [] [.sl 1 (frV ((fromsS l).getD [])), .sl 1 (dpV ((fromsS l).getD [])), .bool (fromsS l).isSome] [] := by
  refine good_of hP Tryz.func80 (by kernel_rfl) (lv := [0, 2, 3, 4, 5, 6, 7, 8, 9, 10, 16, 17, 32, 40, 61, 79, 114]) (js := []) ⟨rfl, rfl, rfl, rfl, rfl, rfl, _, rfl, ?_⟩
  generalize hU : fromsS l = U
  conv => whnf
  refine loop_of hP [0, 2, 3, 4, 5, 6, 7, 8, 9, 10, 16, 17, 32, 40, 61, 79, 114] [] [2, 3, 7, 8, 9] [66, 67] [.slot 2 1, .slot 3 1] (fun m st => ∃ (k : Nat) (a : List (Nat × Nat)), m = l.length - k ∧ k ≤ l.length ∧ a.length = k ∧ AccB a ∧ fromsGo a (l.drop k) = U ∧
    st = ⟨[(2, .own 66 0), (3, .own 67 0), (7, .sl 5 (nodV l)), (8, .int .i64 l.length), (9, .int .i64 k)], [(66, .arr 0 false 1 (frV a)), (67, .arr 0 false 1 (dpV a))]⟩) l.length ?_ ?_
  · conv => whnf
    exact ⟨0, [], rfl, Nat.zero_le _, rfl, accB_nil, hU, by rw [← List.length_map (f := Nod.c)]; rfl⟩
  · rintro m st ⟨k, a, rfl, hk, hak, hB, hU, rfl⟩
    have hal : (frV a).length = k ∧ (dpV a).length = k := ⟨by rw [List.length_map, hak], by rw [List.length_map, hak]⟩
    conv => whnf
    refine branch_of (fun h => ?_) (fun h => ?_)
    · have h := of_decide_eq_true h
      have hk' : k < l.length := by omega
      rw [fromsGo_step hk'] at hU
      have hbk := hb _ (List.getElem_mem hk')
      have hrow := idxM (f := Nod.c) hk' rfl
      generalize hx : l[k] = x at *
      obtain ⟨xk, xa, xx, xy⟩ := x
      have hap : ∀ (p : Nat × Nat), frV (a ++ [p]) = frV a ++ [[.int .i64 p.1]] ∧ dpV (a ++ [p]) = dpV a ++ [[.int .i64 p.2]] := fun p => ⟨List.map_append, List.map_append⟩
      have hnext : ∀ (p : Nat × Nat), nodS a ⟨xk, xa, xx, xy⟩ = some p → fromsGo (a ++ [p]) (l.drop (k + 1)) = U := fun p hp => by rw [hp] at hU; exact hU
      have hnone : nodS a ⟨xk, xa, xx, xy⟩ = none → U = none := fun hp => by rw [hp] at hU; exact hU.symm
      have hw : IntKind.i64.wrap ((k : Int) + 1) = ((k + 1 : Nat) : Int) := by rw [wr (by omega) (by omega)]; rfl
      have hcon : ∀ (p : Nat × Nat), nodS a ⟨xk, xa, xx, xy⟩ = some p → ∃ (k' : Nat) (a' : List (Nat × Nat)), l.length - (k + 1) = l.length - k' ∧ k' ≤ l.length ∧ a'.length = k' ∧ AccB a' ∧ fromsGo a' (l.drop k') = U ∧ k' = k + 1 ∧ a' = a ++ [p] := fun p hp => ⟨k + 1, a ++ [p], rfl, by omega, by simp [hak], accB_snoc hB hp, hnext p hp, rfl, rfl⟩
      conv => whnf
      refine ⟨_, hrow, ?_⟩
      conv => whnf
      refine call0 (arms_good xk) ?_
      rcases arms_cases xk with ⟨ha, hkk⟩ | ⟨ha, hkk⟩ | ⟨ha, hkk⟩ | ⟨ha, hkk⟩
      · rw [ha]
        conv => whnf
        have hno : nodS a ⟨xk, xa, xx, xy⟩ = if xx = 0 ∧ xy = 0 ∧ atomOk xa = true then some (a.length, 1) else none := by unfold nodS; rw [if_pos ha]
        refine branch_of (fun h1 => ?_) (fun h1 => ?_)
        · have h1 : ¬ xx = 0 := of_decide_eq_false (by simpa using h1)
          have := hnone (by rw [hno, if_neg (fun q => h1 q.1)])
          subst this
          conv => whnf
          exact fin0 rfl trivial
        have h1 : xx = 0 := of_decide_eq_true (by simpa using h1)
        conv => whnf
        refine branch_of (fun h2 => ?_) (fun h2 => ?_)
        · have h2 : ¬ xy = 0 := of_decide_eq_false (by simpa using h2)
          have := hnone (by rw [hno, if_neg (fun q => h2 q.2.1)])
          subst this
          conv => whnf
          exact fin0 rfl trivial
        have h2 : xy = 0 := of_decide_eq_true (by simpa using h2)
        conv => whnf
        refine call0 (mcheck_good xa hbk) ?_
        cases hq : atomOk xa with
        | false =>
          have := hnone (by rw [hno, if_neg (fun q => by rw [hq] at q; cases q.2.2)])
          subst this
          conv => whnf
          exact fin0 rfl trivial
        | true =>
          obtain ⟨k', a', e1, e2, e3, e4, e5, e6, e7⟩ := hcon (a.length, 1) (by rw [hno, if_pos ⟨h1, h2, hq⟩])
          subst e6
          conv => whnf
          refine ⟨⟨⟩, by dsimp only; rw [hal.1]; simp only [List.length_cons, List.length_nil]; omega, ?_⟩
          conv => whnf
          refine ⟨⟨⟩, by dsimp only; rw [hal.2]; simp only [List.length_cons, List.length_nil]; omega, ?_⟩
          conv => whnf
          rw [hw]
          refine ⟨l.length - (k + 1), by omega, k + 1, a', rfl, e2, e3, e4, e5, ?_⟩
          rw [e7, (hap _).1, (hap _).2, hak]
          rfl
      · rw [ha]
        conv => whnf
        refine branch_of (fun h0 => ?_) (fun h0 => ?_)
        · have h0 := of_decide_eq_true h0
          have : k = 0 := by omega
          subst this
          have ha0 : a = [] := List.eq_nil_of_length_eq_zero hak
          subst ha0
          have := hnone (by unfold nodS; rw [if_neg (by dsimp only; omega), if_pos ha]; rfl)
          subst this
          conv => whnf
          exact fin0 rfl trivial
        have h0 := of_decide_eq_false h0
        have hk1 : k - 1 < a.length := by omega
        have hlast : a.getLast? = some a[k - 1] := by rw [List.getLast?_eq_getElem?, hak, List.getElem?_eq_getElem hk1]
        have hno : nodS a ⟨xk, xa, xx, xy⟩ = if xx = (a.length : Int) - 1 ∧ xy = 0 ∧ xa = zeroA then some ((a[k - 1]).1, (a[k - 1]).2 + 1) else none := by
          unfold nodS; rw [if_neg (by dsimp only; omega), if_pos ha, hlast]
        have hw1 : IntKind.i64.wrap ((k : Int) - 1) = ((k - 1 : Nat) : Int) := by rw [wr (by omega) (by omega)]; omega
        have hBk := hB (k - 1) a[k - 1] (List.getElem?_eq_getElem hk1)
        have r1 : ∀ g : Nat × Nat → List V, (a.map g)[((k - 1 : Nat) : Int).toNat]? = some (g a[k - 1]) := fun g => by rw [Int.toNat_natCast, List.getElem?_map, List.getElem?_eq_getElem hk1]; rfl
        conv => whnf
        rw [hw1]
        refine branch_of (fun h1 => ?_) (fun h1 => ?_)
        · have h1 : ¬ xx = ((k - 1 : Nat) : Int) := of_decide_eq_false (by simpa using h1)
          have := hnone (by rw [hno, if_neg (fun q => h1 (by rw [q.1, hak]; omega))])
          subst this
          conv => whnf
          exact fin0 rfl trivial
        have h1 : xx = ((k - 1 : Nat) : Int) := of_decide_eq_true (by simpa using h1)
        conv => whnf
        refine branch_of (fun h2 => ?_) (fun h2 => ?_)
        · have h2 : ¬ xy = 0 := of_decide_eq_false (by simpa using h2)
          have := hnone (by rw [hno, if_neg (fun q => h2 q.2.1)])
          subst this
          conv => whnf
          exact fin0 rfl trivial
        have h2 : xy = 0 := of_decide_eq_true (by simpa using h2)
        conv => whnf
        refine call0 (empty_good xa) ?_
        by_cases hz : xa = zeroA
        · rw [decide_eq_true hz]
          obtain ⟨k', a', e1, e2, e3, e4, e5, e6, e7⟩ := hcon ((a[k - 1]).1, (a[k - 1]).2 + 1) (by rw [hno, if_pos ⟨by rw [h1, hak]; omega, h2, hz⟩])
          subst e6
          conv => whnf
          rw [hw1]
          refine ⟨⟨⟩, by rw [hal.1]; omega, ?_⟩
          conv => whnf
          refine ⟨_, r1 _, ?_⟩
          conv => whnf
          refine ⟨⟨⟩, by dsimp only; rw [hal.1]; simp only [List.length_cons, List.length_nil]; omega, ?_⟩
          conv => whnf
          rw [hw1]
          refine ⟨⟨⟩, by rw [hal.2]; omega, ?_⟩
          conv => whnf
          refine ⟨_, r1 _, ?_⟩
          conv => whnf
          refine ⟨⟨⟩, by dsimp only; rw [hal.2]; simp only [List.length_cons, List.length_nil]; omega, ?_⟩
          conv => whnf
          refine ⟨by kernel_rfl, ?_⟩
          conv => whnf
          rw [hw]
          refine ⟨l.length - (k + 1), by omega, k + 1, a', rfl, e2, e3, e4, e5, ?_⟩
          rw [e7, (hap _).1, (hap _).2, wr (by omega) (by omega)]
          rfl
        · rw [decide_eq_false hz]
          have := hnone (by rw [hno, if_neg (fun q => hz q.2.2)])
          subst this
          conv => whnf
          exact fin0 rfl trivial
      · rw [ha]
        conv => whnf
        refine branch_of (fun h0 => ?_) (fun h0 => ?_)
        · have h0 := of_decide_eq_true h0
          have : k = 0 := by omega
          subst this
          have ha0 : a = [] := List.eq_nil_of_length_eq_zero hak
          subst ha0
          have := hnone (by unfold nodS; rw [if_neg (by dsimp only; omega), if_neg (by dsimp only; omega), if_pos ha]; rfl)
          subst this
          conv => whnf
          refine ⟨by kernel_rfl, ?_⟩
          conv => whnf
          exact fin0 rfl trivial
        have h0 := of_decide_eq_false h0
        have hk1 : k - 1 < a.length := by omega
        have hlast : a.getLast? = some a[k - 1] := by rw [List.getLast?_eq_getElem?, hak, List.getElem?_eq_getElem hk1]
        have hw1 : IntKind.i64.wrap ((k : Int) - 1) = ((k - 1 : Nat) : Int) := by rw [wr (by omega) (by omega)]; omega
        have hBk := hB (k - 1) a[k - 1] (List.getElem?_eq_getElem hk1)
        have r1 : ∀ g : Nat × Nat → List V, (a.map g)[((k - 1 : Nat) : Int).toNat]? = some (g a[k - 1]) := fun g => by rw [Int.toNat_natCast, List.getElem?_map, List.getElem?_eq_getElem hk1]; rfl
        generalize hq : a[k - 1] = q at *
        obtain ⟨q1, q2⟩ := q
        dsimp only at hBk
        have hno : nodS a ⟨xk, xa, xx, xy⟩ = if xy = (a.length : Int) - 1 ∧ 1 ≤ q1 ∧ xx = (q1 : Int) - 1 ∧ xa = zeroA then (match a[q1 - 1]? with | some s => some (s.1, max s.2 q2 + 1) | none => none) else none := by
          unfold nodS; rw [if_neg (by dsimp only; omega), if_neg (by dsimp only; omega), if_pos ha, hlast]
          rfl
        conv => whnf
        rw [hw1]
        refine branch_of (fun h1 => ?_) (fun h1 => ?_)
        · have h1 : ¬ xy = ((k - 1 : Nat) : Int) := of_decide_eq_false (by simpa using h1)
          have := hnone (by rw [hno, if_neg (fun q => h1 (by rw [q.1, hak]; omega))])
          subst this
          conv => whnf
          refine ⟨by kernel_rfl, ?_⟩
          conv => whnf
          exact fin0 rfl trivial
        have h1 : xy = ((k - 1 : Nat) : Int) := of_decide_eq_true (by simpa using h1)
        subst h1
        conv => whnf
        rw [hw1]
        refine ⟨⟨⟩, by rw [hal.1]; omega, ?_⟩
        conv => whnf
        refine ⟨_, r1 _, ?_⟩
        conv => whnf
        refine branch_of (fun h2 => ?_) (fun h2 => ?_)
        · have h2 : ((q1 : Nat) : Int) < 1 := of_decide_eq_true h2
          have := hnone (by rw [hno, if_neg (fun q => by have := q.2.1; omega)])
          subst this
          conv => whnf
          refine ⟨by kernel_rfl, ?_⟩
          conv => whnf
          exact fin0 rfl trivial
        have h2 : ¬ ((q1 : Nat) : Int) < 1 := of_decide_eq_false h2
        have hwq : IntKind.i64.wrap ((q1 : Int) - 1) = ((q1 - 1 : Nat) : Int) := by rw [wr (by omega) (by omega)]; omega
        have hk2 : q1 - 1 < a.length := by omega
        have hBs := hB (q1 - 1) a[q1 - 1] (List.getElem?_eq_getElem hk2)
        have r2 : ∀ g : Nat × Nat → List V, (a.map g)[((q1 - 1 : Nat) : Int).toNat]? = some (g a[q1 - 1]) := fun g => by rw [Int.toNat_natCast, List.getElem?_map, List.getElem?_eq_getElem hk2]; rfl
        have hs : a[q1 - 1]? = some a[q1 - 1] := List.getElem?_eq_getElem hk2
        generalize a[q1 - 1] = z at *
        obtain ⟨z1, z2⟩ := z
        dsimp only at hBs
        rw [hs] at hno
        dsimp only at hno
        conv => whnf
        rw [hw1]
        refine ⟨⟨⟩, by rw [hal.1]; omega, ?_⟩
        conv => whnf
        refine ⟨_, r1 _, ?_⟩
        conv => whnf
        rw [hwq]
        refine branch_of (fun h3 => ?_) (fun h3 => ?_)
        · have h3 : ¬ xx = ((q1 - 1 : Nat) : Int) := of_decide_eq_false (by simpa using h3)
          have := hnone (by rw [hno, if_neg (fun q => h3 (by rw [q.2.2.1]; omega))])
          subst this
          conv => whnf
          refine ⟨by kernel_rfl, ?_⟩
          conv => whnf
          exact fin0 rfl trivial
        have h3 : xx = ((q1 - 1 : Nat) : Int) := of_decide_eq_true (by simpa using h3)
        subst h3
        conv => whnf
        refine call0 (empty_good xa) ?_
        by_cases hz : xa = zeroA
        · rw [decide_eq_true hz]
          obtain ⟨k', a', e1, e2, e3, e4, e5, e6, e7⟩ := hcon (z1, max z2 q2 + 1) (by rw [hno, if_pos ⟨by rw [hak]; omega, by omega, by omega, hz⟩])
          subst e6
          conv => whnf
          refine ⟨by kernel_rfl, ?_⟩
          conv => whnf
          refine ⟨⟨⟩, by dsimp only; rw [hal.1]; omega, ?_⟩
          conv => whnf
          refine ⟨_, r2 _, ?_⟩
          conv => whnf
          refine ⟨⟨⟩, by dsimp only; rw [hal.1]; simp only [List.length_cons, List.length_nil]; omega, ?_⟩
          conv => whnf
          refine ⟨⟨⟩, by dsimp only; rw [hal.2]; omega, ?_⟩
          conv => whnf
          refine ⟨_, r2 _, ?_⟩
          conv => whnf
          refine ⟨⟨⟩, by dsimp only; rw [hal.2]; omega, ?_⟩
          conv => whnf
          refine ⟨_, r1 _, ?_⟩
          conv => whnf
          have hmx : IntKind.i64.wrap ((if ((z2 : Nat) : Int) < ((q2 : Nat) : Int) then ((q2 : Nat) : Int) else ((z2 : Nat) : Int)) + 1) = ((max z2 q2 + 1 : Nat) : Int) := by
            split
            · rw [wr (by omega) (by omega)]; omega
            · rw [wr (by omega) (by omega)]; omega
          refine ⟨⟨⟩, by dsimp only; rw [hal.2]; simp only [List.length_cons, List.length_nil]; omega, ?_⟩
          conv => whnf
          refine ⟨by kernel_rfl, ?_⟩
          conv => whnf
          rw [hw]
          refine ⟨l.length - (k + 1), by omega, k + 1, a', rfl, e2, e3, e4, e5, ?_⟩
          rw [e7, (hap _).1, (hap _).2]
          dsimp only
          rw [hmx]
        · rw [decide_eq_false hz]
          have := hnone (by rw [hno, if_neg (fun q => hz q.2.2.2)])
          subst this
          conv => whnf
          refine ⟨by kernel_rfl, ?_⟩
          conv => whnf
          exact fin0 rfl trivial
      · rw [ha]
        have := hnone (by unfold nodS; rw [if_neg (by dsimp only; omega), if_neg (by dsimp only; omega), if_neg (by dsimp only; omega)])
        subst this
        conv => whnf
        exact fin0 rfl trivial
    · have h := of_decide_eq_false h
      have hd : l.drop k = [] := List.drop_eq_nil_iff.2 (by omega)
      rw [hd, fromsGo] at hU
      subst hU
      conv => whnf
      exact fin0 rfl trivial
end Go.PV
namespace Go.PV
open Go Go.Proofs
set_option maxRecDepth 100000
theorem fmlOk_some {l : List Nod} {b : List (Nat × Nat)} (h : fromsS l = some b) (h1 : 1 ≤ l.length) (h2 : l.length ≤ 40) (hk : l.length - 1 < b.length) : fmlOk l = decide ((b[l.length - 1]).1 = 0 ∧ (b[l.length - 1]).2 ≤ 12) := by
  have hl : b.length = l.length := by have := (fromsGo_len h).1; simpa using this
  unfold fmlOk
  rw [decide_eq_true ⟨h1, h2⟩, Bool.true_and, h]
  dsimp only
  rw [List.getLast?_eq_getElem?, hl, List.getElem?_eq_getElem hk]
theorem fcheck_good (l : List Nod) (hl : l.length ≤ 1000000) (hb : ∀ o ∈ l, nodB o) : Good Tryz.prog 29 [.sl 5 (nodV l)] [] [.int .i64 (if fmlOk l then 0 else 17)] [] := by
  have hll : (nodV l).length = l.length := List.length_map _
  refine good_of hP Tryz.func29 (by kernel_rfl) (lv := [0, 2, 3, 4, 5, 6, 14, 38]) (js := []) ⟨rfl, rfl, rfl, rfl, rfl, rfl, _, rfl, ?_⟩
  conv => whnf
  refine branch_of (fun h1 => ?_) (fun h1 => ?_)
  · have h1 := of_decide_eq_true h1
    rw [hll] at h1
    have e : fmlOk l = false := by unfold fmlOk; rw [decide_eq_false (by omega), Bool.false_and]
    rw [e]
    conv => whnf
    exact fin0 rfl trivial
  have h1 := of_decide_eq_false h1
  rw [hll] at h1
  conv => whnf
  refine branch_of (fun h2 => ?_) (fun h2 => ?_)
  · have h2 := of_decide_eq_true h2
    rw [hll] at h2
    have e : fmlOk l = false := by unfold fmlOk; rw [decide_eq_false (by omega), Bool.false_and]
    rw [e]
    conv => whnf
    exact fin0 rfl trivial
  have h2 := of_decide_eq_false h2
  rw [hll] at h2
  conv => whnf
  refine call0 (froms_good l hl hb) ?_
  cases hU : fromsS l with
  | none =>
    have e : fmlOk l = false := by unfold fmlOk; rw [hU]; simp
    rw [e]
    conv => whnf
    exact fin0 rfl trivial
  | some b =>
    have hbl : b.length = l.length := by have := (fromsGo_len hU).1; simpa using this
    have hk : l.length - 1 < b.length := by omega
    have e := fmlOk_some hU (by omega) (by omega) hk
    have hw : IntKind.i64.wrap (((nodV l).length : Int) - 1) = ((l.length - 1 : Nat) : Int) := by rw [hll, wr (by omega) (by omega)]; omega
    have hrow : ∀ g : Nat × Nat → List V, (0 : Int) ≤ ((l.length - 1 : Nat) : Int) ∧ (b.map g)[((l.length - 1 : Nat) : Int).toNat]? = some (g b[l.length - 1]) := fun g => ⟨by omega, by rw [Int.toNat_natCast, List.getElem?_map, List.getElem?_eq_getElem hk]; rfl⟩
    generalize b[l.length - 1] = q at *
    obtain ⟨q1, q2⟩ := q
    dsimp only at e
    conv => whnf
    rw [hw]
    refine ⟨_, hrow _, ?_⟩
    conv => whnf
    refine branch_of (fun h3 => ?_) (fun h3 => ?_)
    · have h3 : ¬ ((q1 : Nat) : Int) = 0 := of_decide_eq_false (by simpa using h3)
      rw [e, show decide (q1 = 0 ∧ q2 ≤ 12) = false from decide_eq_false (by omega)]
      conv => whnf
      exact fin0 rfl trivial
    have h3 : ((q1 : Nat) : Int) = 0 := of_decide_eq_true (by simpa using h3)
    conv => whnf
    rw [hw]
    refine ⟨_, hrow _, ?_⟩
    conv => whnf
    refine branch_of (fun h4 => ?_) (fun h4 => ?_)
    · have h4 : (12 : Int) < ((q2 : Nat) : Int) := of_decide_eq_true h4
      rw [e, show decide (q1 = 0 ∧ q2 ≤ 12) = false from decide_eq_false (by omega)]
      conv => whnf
      exact fin0 rfl trivial
    have h4 : ¬ (12 : Int) < ((q2 : Nat) : Int) := of_decide_eq_false h4
    rw [e, show decide (q1 = 0 ∧ q2 ≤ 12) = true from decide_eq_true (by omega)]
    conv => whnf
    exact fin0 rfl trivial
theorem ffrom_good (l : List Nod) (i : Int) (hl : l.length ≤ 1000000) (hb : ∀ o ∈ l, nodB o) : Good Tryz.prog 27 [.sl 5 (nodV l), .int .i64 i] [] [.int .i64 (fromN l i)] [] := by
  have hll : (nodV l).length = l.length := List.length_map _
  refine good_of hP Tryz.func27 (by kernel_rfl) (lv := [0, 1, 4, 5, 20]) (js := []) ⟨rfl, rfl, rfl, rfl, rfl, rfl, _, rfl, ?_⟩
  unfold fromN
  conv => whnf
  refine call0 (fcheck_good l hl hb) ?_
  cases hk : fmlOk l with
  | false =>
    rw [Bool.false_and]
    conv => whnf
    exact fin0 rfl trivial
  | true =>
  rw [Bool.true_and]
  obtain ⟨f1, f2, b, hU⟩ := fmlOk_froms hk
  conv => whnf
  refine branch_of (fun h1 => ?_) (fun h1 => ?_)
  · have h1 := of_decide_eq_true h1
    rw [show decide (0 ≤ i ∧ i < l.length) = false from decide_eq_false (by omega)]
    conv => whnf
    exact fin0 rfl trivial
  have h1 := of_decide_eq_false h1
  conv => whnf
  refine branch_of (fun h2 => ?_) (fun h2 => ?_)
  · have h2 := of_decide_eq_true h2
    rw [hll] at h2
    rw [show decide (0 ≤ i ∧ i < l.length) = false from decide_eq_false (by omega)]
    conv => whnf
    exact fin0 rfl trivial
  have h2 := of_decide_eq_false h2
  rw [hll] at h2
  rw [show decide (0 ≤ i ∧ i < l.length) = true from decide_eq_true (by omega), if_pos rfl, hU]
  dsimp only
  obtain ⟨n, rfl⟩ : ∃ n : Nat, i = n := ⟨i.toNat, by omega⟩
  have hbl : b.length = l.length := by have := (fromsGo_len hU).1; simpa using this
  have hn : n < b.length := by omega
  rw [Int.toNat_natCast, List.getElem?_eq_getElem hn]
  have hrow : (0 : Int) ≤ (n : Int) ∧ (frV b)[((n : Nat) : Int).toNat]? = some [.int .i64 (b[n]).1] := ⟨by omega, by rw [Int.toNat_natCast, List.getElem?_map, List.getElem?_eq_getElem hn]; rfl⟩
  conv => whnf
  refine call0 (froms_good l hl hb) ?_
  rw [hU]
  conv => whnf
  refine ⟨_, hrow, ?_⟩
  conv => whnf
  exact fin0 rfl trivial
theorem limited_good (s : Bs) (h : s.length ≤ 1000000) : Good Tryz.prog 82 [.str s] [] [.str (if 20000 < s.length then [] else s), .int .i64 (if 20000 < s.length then 2 else 0)] [] := by
  refine good_of hP Tryz.func82 (by kernel_rfl) (lv := [0, 2, 3, 6]) (js := []) ⟨rfl, rfl, rfl, rfl, rfl, rfl, _, rfl, ?_⟩
  conv => whnf
  refine branch_of (fun h1 => ?_) (fun h1 => ?_)
  · have h1 := of_decide_eq_true h1
    rw [if_pos (by omega), if_pos (by omega)]
    conv => whnf
    exact fin0 rfl trivial
  · have h1 := of_decide_eq_false h1
    rw [if_neg (by omega), if_neg (by omega)]
    conv => whnf
    exact fin0 rfl trivial
theorem ftx_good (l : List Nod) (hl : l.length ≤ 1000000) (hb : ∀ o ∈ l, nodB o) (hk : fmlOk l = true) : Good Tryz.prog 83 [.sl 5 (nodV l)] [] [.str (fmlT l)] [] := by
  have hll : (nodV l).length = l.length := List.length_map _
  obtain ⟨f1, f2, b, hU⟩ := fmlOk_froms hk
  refine good_of hP Tryz.func83 (by kernel_rfl) (lv := [0, 2, 3, 5, 6, 7, 8, 9, 10, 15, 36, 44]) (js := [100002]) ⟨rfl, rfl, rfl, rfl, rfl, rfl, _, rfl, ?_⟩
  conv => whnf
  refine loop_of hP [0, 2, 3, 5, 6, 7, 8, 9, 10, 15, 36, 44] [100002] [0, 3, 7, 8, 9] [67] [.slot 3 1] (fun m st => ∃ k : Nat, m = l.length - k ∧ k ≤ l.length ∧
    st = ⟨[(0, .sl 5 (nodV l)), (3, .own 67 0), (7, .sl 5 (nodV l)), (8, .int .i64 l.length), (9, .int .i64 k)], [(67, .arr 0 false 1 (strV (txGo [] (l.take k))))]⟩) l.length ?_ ?_
  · conv => whnf
    exact ⟨0, rfl, Nat.zero_le _, by rw [← hll]; rfl⟩
  · rintro m st ⟨k, rfl, hk1, rfl⟩
    have htl : (txGo [] (l.take k)).length = k := by rw [(txGo_len _ _).1, List.length_take]; simp; omega
    have htb := tx_b hk k
    have hsl : (strV (txGo [] (l.take k))).length = k := by rw [List.length_map, htl]
    conv => whnf
    refine branch_of (fun h => ?_) (fun h => ?_)
    · have h := of_decide_eq_true h
      have hk' : k < l.length := by omega
      have hrow := idxM (f := Nod.c) hk' rfl
      have hbk := hb _ (List.getElem_mem hk')
      have hstep := txGo_step l hk'
      obtain ⟨p, hp, _, hpl, hpB⟩ := froms_at hU hk'
      have hcs := nod_cases hpB hp
      rw [hpl] at hcs
      have hnb := tx_b hk (k + 1)
      rw [hstep] at hnb
      have hnl := hnb _ (List.mem_append_right _ (List.mem_singleton_self _))
      have hw : IntKind.i64.wrap ((k : Int) + 1) = ((k + 1 : Nat) : Int) := by rw [wr (by omega) (by omega)]; rfl
      generalize hx : l[k] = x at *
      generalize htx : txGo [] (l.take k) = tx at *
      obtain ⟨xk, xa, xx, xy⟩ := x
      conv => whnf
      refine ⟨_, hrow, ?_⟩
      conv => whnf
      refine seq_of hP [0, 2, 3, 5, 6, 7, 8, 9, 10, 15, 36, 44] [100002] [0, 3, 6, 7, 8, 9] [67] [] (fun st => st = ⟨[(0, .sl 5 (nodV l)), (3, .own 67 0), (6, .str (nodT tx ⟨xk, xa, xx, xy⟩)), (7, .sl 5 (nodV l)), (8, .int .i64 l.length), (9, .int .i64 k)], [(67, .arr 0 false 1 (strV tx))]⟩) ?_ ?_
      · conv => whnf
        refine call0 (arms_good xk) ?_
        rcases hcs with ⟨ha, h1, h2, h3, _⟩ | ⟨ha, h1, h2, h3, h4, _⟩ | ⟨ha, h1, h2, h3, q, s, h4, h5, h6, h7, _, _⟩
        · rw [ha]
          conv => whnf
          refine call0 (atomText_good xa hbk) ?_
          rw [h3, if_pos rfl]
          conv => whnf
          have e : nodT tx ⟨xk, xa, xx, xy⟩ = atomT xa := by unfold nodT; rw [if_pos ha]
          rw [e]
        · dsimp only at h2
          subst h2
          have hx1 : IntKind.i64.wrap ((k : Int) - 1) = ((k - 1 : Nat) : Int) := by rw [wr (by omega) (by omega)]; omega
          have e0 : ((k : Int) - 1) = ((k - 1 : Nat) : Int) := by omega
          have hk1l : k - 1 < tx.length := by omega
          have hin := htb _ (List.getElem_mem hk1l)
          have e1 : nodT tx ⟨xk, xa, (k : Int) - 1, xy⟩ = wordT xk ++ [32] ++ tx[k - 1] := by
            unfold nodT
            dsimp only at ha ⊢
            rw [if_neg (by omega), if_pos ha, e0, Int.toNat_natCast, List.getD_eq_getElem?_getD, List.getElem?_eq_getElem hk1l]
            rfl
          have r1 : (strV tx)[((k - 1 : Nat) : Int).toNat]? = some [.str tx[k - 1]] := by rw [Int.toNat_natCast, List.getElem?_map, List.getElem?_eq_getElem hk1l]; rfl
          rw [ha, e1, e0]
          rw [e0] at hrow hx
          have hkk : xk = 2 ∨ xk = 5 ∨ xk = 6 ∨ xk = 7 := by dsimp only at ha; rcases arms_cases xk with q | q | q | q <;> omega
          rcases hkk with rfl | rfl | rfl | rfl
          all_goals
            conv => whnf
            refine call0 (ones_good) ?_
            conv => whnf
            refine ⟨⟨⟩, by decide, ?_⟩
            conv => whnf
            refine ⟨⟨⟩, by dsimp only; rw [hsl]; omega, ?_⟩
            conv => whnf
            refine ⟨_, r1, ?_⟩
            conv => whnf
            refine ⟨⟨⟩, by show _ + (tx[k - 1]).length ≤ 9223372036854775807; simp only [List.length_append, List.length_cons, List.length_nil]; omega, ?_⟩
            conv => whnf
            refine ⟨by kernel_rfl, ?_⟩
            conv => whnf
            rfl
        · dsimp only at h2 h7
          subst h2
          have e0 : ((k : Int) - 1) = ((k - 1 : Nat) : Int) := by omega
          have e0' : ((q.1 : Int) - 1) = ((q.1 - 1 : Nat) : Int) := by omega
          have hk1l : k - 1 < tx.length := by omega
          have hq1l : q.1 - 1 < tx.length := by omega
          have hin := htb _ (List.getElem_mem hk1l)
          have hin2 := htb _ (List.getElem_mem hq1l)
          have r1 : (strV tx)[((k - 1 : Nat) : Int).toNat]? = some [.str tx[k - 1]] := by rw [Int.toNat_natCast, List.getElem?_map, List.getElem?_eq_getElem hk1l]; rfl
          have r2 : (strV tx)[((q.1 - 1 : Nat) : Int).toNat]? = some [.str tx[q.1 - 1]] := by rw [Int.toNat_natCast, List.getElem?_map, List.getElem?_eq_getElem hq1l]; rfl
          subst h7
          have e1 : nodT tx ⟨xk, xa, (q.1 : Int) - 1, (k : Int) - 1⟩ = [40] ++ tx[q.1 - 1] ++ [32] ++ wordT xk ++ [32] ++ tx[k - 1] ++ [41] := by
            unfold nodT
            dsimp only at ha ⊢
            rw [if_neg (by omega), if_neg (by omega), e0, e0', Int.toNat_natCast, Int.toNat_natCast, List.getD_eq_getElem?_getD, List.getD_eq_getElem?_getD, List.getElem?_eq_getElem hk1l, List.getElem?_eq_getElem hq1l]
            rfl
          rw [ha, e1, e0, e0']
          rw [e0, e0'] at hrow hx
          have hq2 : q.1 - 1 < k := by omega
          generalize q.1 - 1 = w at *
          generalize tx[w] = t1 at *
          generalize tx[k - 1] = t2 at *
          have hkk : xk = 3 ∨ xk = 4 ∨ xk = 8 := by dsimp only at ha; rcases arms_cases xk with q | q | q | q <;> omega
          rcases hkk with rfl | rfl | rfl
          all_goals
            conv => whnf
            refine ⟨⟨⟩, by dsimp only; rw [hsl]; omega, ?_⟩
            conv => whnf
            refine ⟨_, r2, ?_⟩
            conv => whnf
            refine ⟨⟨⟩, by show 1 + t1.length ≤ 9223372036854775807; omega, ?_⟩
            conv => whnf
            refine ⟨⟨⟩, by show ([40] ++ t1 : Bs).length + 1 ≤ 9223372036854775807; simp only [List.length_append, List.length_cons, List.length_nil]; omega, ?_⟩
            conv => whnf
            refine call0 (twos_good) ?_
            conv => whnf
            refine ⟨⟨⟩, by show ([40] ++ t1 ++ [32] : Bs).length + _ ≤ 9223372036854775807; simp only [List.length_append, List.length_cons, List.length_nil]; omega, ?_⟩
            conv => whnf
            refine ⟨⟨⟩, by show ([40] ++ t1 ++ [32] ++ _ : Bs).length + 1 ≤ 9223372036854775807; simp only [List.length_append, List.length_cons, List.length_nil]; omega, ?_⟩
            conv => whnf
            refine ⟨⟨⟩, by dsimp only; rw [hsl]; omega, ?_⟩
            conv => whnf
            refine ⟨_, r1, ?_⟩
            conv => whnf
            refine ⟨⟨⟩, by show ([40] ++ t1 ++ [32] ++ _ ++ [32] : Bs).length + t2.length ≤ 9223372036854775807; simp only [List.length_append, List.length_cons, List.length_nil]; omega, ?_⟩
            conv => whnf
            refine ⟨⟨⟩, by show ([40] ++ t1 ++ [32] ++ _ ++ [32] ++ t2 : Bs).length + 1 ≤ 9223372036854775807; simp only [List.length_append, List.length_cons, List.length_nil]; omega, ?_⟩
            conv => whnf
            refine ⟨by kernel_rfl, ?_⟩
            conv => whnf
            rfl
      · rintro st rfl
        conv => whnf
        refine ⟨⟨⟩, by dsimp only; rw [hsl]; simp only [List.length_cons, List.length_nil]; omega, ?_⟩
        conv => whnf
        rw [hw]
        refine ⟨l.length - (k + 1), by omega, k + 1, rfl, by omega, ?_⟩
        rw [hstep, show strV (tx ++ [nodT tx ⟨xk, xa, xx, xy⟩]) = strV tx ++ [[.str (nodT tx ⟨xk, xa, xx, xy⟩)]] from List.map_append]
    · have h := of_decide_eq_false h
      have e : l.take k = l := List.take_of_length_le (by omega)
      rw [e] at hsl htl ⊢
      have hkl : k - 1 < (txGo [] l).length := by omega
      have hw : IntKind.i64.wrap (((nodV l).length : Int) - 1) = ((k - 1 : Nat) : Int) := by rw [hll, wr (by omega) (by omega)]; omega
      have e2 : fmlT l = (txGo [] l)[k - 1] := by
        unfold fmlT
        rw [List.getLastD_eq_getLast?, List.getLast?_eq_getElem?, htl, List.getElem?_eq_getElem hkl]; rfl
      have r1 : (strV (txGo [] l))[((k - 1 : Nat) : Int).toNat]? = some [.str (txGo [] l)[k - 1]] := by rw [Int.toNat_natCast, List.getElem?_map, List.getElem?_eq_getElem hkl]; rfl
      rw [e2]
      conv => whnf
      rw [hw]
      refine ⟨⟨⟩, by dsimp only; rw [hsl]; omega, ?_⟩
      conv => whnf
      refine ⟨_, r1, ?_⟩
      conv => whnf
      exact fin0 rfl trivial
end Go.PV
namespace Go.PV
open Go Go.Proofs
set_option maxRecDepth 100000
theorem gright_good (h : Int) : Good Tryz.prog 225 [.int .i64 h] [] [.bool (decide (1 ≤ h ∧ h ≤ 4))] [] := by
  refine good_of hP Tryz.func225 (by kernel_rfl) (lv := [0, 2]) (js := []) ⟨rfl, rfl, rfl, rfl, rfl, rfl, _, rfl, ?_⟩
  conv => whnf
  refine branch_of (fun g => ?_) (fun g => ?_)
  · have g := of_decide_eq_true g
    conv => whnf
    exact fin0 (by rw [show decide (1 ≤ h ∧ h ≤ 4) = decide (h ≤ 4) from by rw [decide_eq_decide]; omega]) trivial
  · have g := of_decide_eq_false g
    conv => whnf
    exact fin0 (by rw [decide_eq_false (by omega)]) trivial
theorem gcheck_good (c : Cnd) (hb : cndB c) : Good Tryz.prog 187 [.agg c.c] [] [.int .i64 (if guardOk c then 0 else 1)] [] := by
  obtain ⟨k, ⟨n, a⟩, h, l, r⟩ := c
  obtain ⟨b1, b2, b3, b4, b5, b6, b7⟩ := hb
  dsimp only at b1 b2 b3 b4 b5 b6 b7
  refine good_of hP Tryz.func187 (by kernel_rfl) (lv := [0, 1, 2, 36]) (js := []) ⟨rfl, rfl, rfl, rfl, rfl, rfl, _, rfl, ?_⟩
  unfold guardOk
  dsimp only
  conv => whnf
  refine branch_of (fun h1 => ?_) (fun h1 => ?_)
  · have h1 : (!decide (k = 3)) = true := h1
    rw [Bool.not_eq_true'] at h1
    rw [h1]
    conv => whnf
    exact fin0 rfl trivial
  have h1 : (!decide (k = 3)) = false := h1
  rw [Bool.not_eq_false'] at h1
  rw [h1, Bool.true_and]
  conv => whnf
  refine branch_of (fun h2 => ?_) (fun h2 => ?_)
  · have h2 : (!decide (n = [])) = true := h2
    rw [Bool.not_eq_true'] at h2
    rw [h2]
    conv => whnf
    exact fin0 rfl trivial
  have h2 : (!decide (n = [])) = false := h2
  rw [Bool.not_eq_false'] at h2
  rw [h2, Bool.true_and]
  conv => whnf
  refine branch_of (fun h3 => ?_) (fun h3 => ?_)
  · have h3 := of_decide_eq_true h3
    rw [List.length_map] at h3
    have e : decide (a = []) = false := decide_eq_false (by rintro rfl; exact absurd h3 (by simp))
    rw [e]
    conv => whnf
    exact fin0 rfl trivial
  have h3 := of_decide_eq_false h3
  rw [List.length_map] at h3
  have e : decide (a = []) = true := decide_eq_true (List.eq_nil_of_length_eq_zero (by dsimp only at h3; omega))
  rw [e, Bool.true_and]
  conv => whnf
  refine call0 (gright_good h) ?_
  cases decide (1 ≤ h ∧ h ≤ 4) with
  | false =>
    conv => whnf
    exact fin0 rfl trivial
  | true =>
  rw [Bool.true_and]
  conv => whnf
  refine call0 (xcheck_good l ⟨b4, b5⟩) ?_
  cases exprOk l with
  | false =>
    conv => whnf
    exact fin0 rfl trivial
  | true =>
  rw [Bool.true_and]
  conv => whnf
  refine call0 (xcheck_good r ⟨b6, b7⟩) ?_
  cases exprOk r with
  | false =>
    conv => whnf
    exact fin0 rfl trivial
  | true =>
    conv => whnf
    exact fin0 rfl trivial
theorem rcond_good (c : Cnd) (hb : cndB c) : Good Tryz.prog 121 [.agg c.c] [] [.bool (condOk c)] [] := by
  have hg := gcheck_good c hb
  obtain ⟨k, ⟨n, a⟩, h, l, r⟩ := c
  obtain ⟨b1, b2, b3, b4, b5, b6, b7⟩ := hb
  dsimp only at b1 b2 b3 b4 b5 b6 b7
  refine good_of hP Tryz.func121 (by kernel_rfl) (lv := [0, 1, 2, 3, 6]) (js := []) ⟨rfl, rfl, rfl, rfl, rfl, rfl, _, rfl, ?_⟩
  unfold condOk
  dsimp only
  conv => whnf
  refine branch_of (fun h1 => ?_) (fun h1 => ?_)
  · have h1 : k = 3 := of_decide_eq_true h1
    rw [if_pos h1]
    conv => whnf
    refine call0 (hg) ?_
    generalize guardOk ⟨k, ⟨n, a⟩, h, l, r⟩ = b
    cases b with
    | false =>
      conv => whnf
      exact fin0 rfl trivial
    | true =>
      conv => whnf
      exact fin0 rfl trivial
  have h1 : ¬ k = 3 := of_decide_eq_false h1
  rw [if_neg h1]
  have el : decide ((((stpV l).length : Nat) : Int) = 0) = decide (l = []) := by
    rw [decide_eq_decide, List.length_map]
    exact ⟨fun e => List.eq_nil_of_length_eq_zero (by omega), fun e => by rw [e]; rfl⟩
  have er : decide ((((stpV r).length : Nat) : Int) = 0) = decide (r = []) := by
    rw [decide_eq_decide, List.length_map]
    exact ⟨fun e => List.eq_nil_of_length_eq_zero (by omega), fun e => by rw [e]; rfl⟩
  have ek : decide (k = 1 ∨ k = 2) = (decide (k = 1) || decide (k = 2)) := by simp
  rw [ek]
  conv => whnf
  cases e1 : decide (h = 0) with
  | false =>
    rw [Bool.false_and, Bool.and_false, Bool.false_and]
    conv => whnf
    cases decide (k = 1) with
    | true =>
      conv => whnf
      exact fin0 rfl trivial
    | false =>
      conv => whnf
      cases decide (k = 2) with
      | true =>
        conv => whnf
        exact fin0 rfl trivial
      | false =>
        conv => whnf
        exact fin0 rfl trivial
  | true =>
  rw [Bool.true_and]
  conv => whnf
  rw [el]
  cases e2 : decide (l = []) with
  | false =>
    rw [Bool.false_and, Bool.and_false, Bool.false_and]
    conv => whnf
    cases decide (k = 1) with
    | true =>
      conv => whnf
      exact fin0 rfl trivial
    | false =>
      conv => whnf
      cases decide (k = 2) with
      | true =>
        conv => whnf
        exact fin0 rfl trivial
      | false =>
        conv => whnf
        exact fin0 rfl trivial
  | true =>
  rw [Bool.true_and]
  conv => whnf
  rw [er]
  cases e3 : decide (r = []) with
  | false =>
    rw [Bool.and_false, Bool.false_and]
    cases decide (k = 1) with
    | true =>
      conv => whnf
      exact fin0 rfl trivial
    | false =>
      conv => whnf
      cases decide (k = 2) with
      | true =>
        conv => whnf
        exact fin0 rfl trivial
      | false =>
        conv => whnf
        exact fin0 rfl trivial
  | true =>
  rw [Bool.and_true]
  have hm := mcheck_good ⟨n, a⟩ ⟨b1, b2, b3⟩
  cases decide (k = 1) with
  | true =>
    rw [Bool.true_or, Bool.true_and]
    conv => whnf
    refine call0 (hm) ?_
    cases atomOk ⟨n, a⟩ with
    | false =>
      conv => whnf
      exact fin0 rfl trivial
    | true =>
      conv => whnf
      exact fin0 rfl trivial
  | false =>
    rw [Bool.false_or]
    conv => whnf
    cases decide (k = 2) with
    | true =>
      rw [Bool.true_and]
      conv => whnf
      refine call0 (hm) ?_
      cases atomOk ⟨n, a⟩ with
      | false =>
        conv => whnf
        exact fin0 rfl trivial
      | true =>
        conv => whnf
        exact fin0 rfl trivial
    | false =>
      conv => whnf
      exact fin0 rfl trivial
end Go.PV
namespace Go.PV
open Go Go.Proofs
set_option maxRecDepth 100000
theorem aclos_good (l : List Stp) (h : opsB l) : Good Tryz.prog 190 [.sl 5 (stpV l)] [] [.bool (!exprOk l)] [] := by
  refine good_of hP Tryz.func190 (by kernel_rfl) (lv := [0, 2]) (js := []) ⟨rfl, rfl, rfl, rfl, rfl, rfl, _, rfl, ?_⟩
  conv => whnf
  refine call0 (xcheck_good l h) ?_
  cases exprOk l with
  | false =>
    conv => whnf
    exact fin0 rfl trivial
  | true =>
    conv => whnf
    exact fin0 rfl trivial
theorem indexOps_good (l : List (List Stp)) (hl : l.length ≤ 1000000) (g : FuncId) (p : List Stp → Bool) (hg : ∀ t ∈ l, Good Tryz.prog g [.sl 5 (stpV t)] [] [.bool (p t)] []) : Good Tryz.prog 226 [.sl 1 (opsV l), .fn g []] [] [.int .i64 (match l.findIdx? p with | some i => (i : Int) | none => -1)] [] := by
  refine good_of hP Tryz.func226 (by kernel_rfl) (lv := [0, 1, 4, 5, 7, 8, 9, 16]) (js := []) ⟨rfl, rfl, rfl, rfl, rfl, rfl, _, rfl, ?_⟩
  conv => whnf
  refine loop_of hP [0, 1, 4, 5, 7, 8, 9, 16] [] [0, 1, 7, 8] [] [] (fun n st => ∃ k : Nat, n = l.length - k ∧ k ≤ l.length ∧ (∀ j (h : j < l.length), j < k → p l[j] = false) ∧ st = ⟨[(0, .sl 1 (opsV l)), (1, .fn g []), (7, .int .i64 l.length), (8, .int .i64 k)], []⟩) l.length ?_ ?_
  · conv => whnf
    exact ⟨0, rfl, Nat.zero_le _, fun j _ h => by omega, by rw [← List.length_map (f := fun x : List Stp => [V.sl 5 (stpV x)])]; rfl⟩
  · rintro n st ⟨k, rfl, hk, hn, rfl⟩
    conv => whnf
    refine branch_of (fun h => ?_) (fun h => ?_)
    · have h := of_decide_eq_true h
      have hk' : k < l.length := by omega
      conv => whnf
      refine ⟨[.sl 5 (stpV l[k])], idxM hk' rfl, ?_⟩
      conv => whnf
      refine call0 (hg _ (List.getElem_mem hk')) ?_
      cases hp : p l[k] with
      | true =>
        conv => whnf
        refine fin0 ?_ trivial
        have : l.findIdx? p = some k := by
          rw [List.findIdx?_eq_some_iff_getElem]
          exact ⟨hk', hp, fun j hj => by simpa using hn j (by omega) hj⟩
        rw [this]
      | false =>
        conv => whnf
        refine ⟨l.length - (k + 1), by omega, k + 1, rfl, by omega, fun j hj hjk => ?_, ?_⟩
        · by_cases e : j = k
          · subst e; exact hp
          · exact hn j hj (by omega)
        · rw [wr (by omega) (by omega)]; rfl
    · have h := of_decide_eq_false h
      conv => whnf
      refine fin0 ?_ trivial
      have : l.findIdx? p = none := by
        rw [List.findIdx?_eq_none_iff]
        intro x hx
        obtain ⟨j, hj, rfl⟩ := List.getElem_of_mem hx
        exact hn j hj (by omega)
      rw [this]
theorem containsOps_good (l : List (List Stp)) (hl : l.length ≤ 1000000) (g : FuncId) (p : List Stp → Bool) (hg : ∀ t ∈ l, Good Tryz.prog g [.sl 5 (stpV t)] [] [.bool (p t)] []) : Good Tryz.prog 189 [.sl 1 (opsV l), .fn g []] [] [.bool (l.any p)] [] := by
  refine good_of hP Tryz.func189 (by kernel_rfl) (lv := [0, 1, 4]) (js := []) ⟨rfl, rfl, rfl, rfl, rfl, rfl, _, rfl, ?_⟩
  conv => whnf
  refine call0 (indexOps_good l hl g p hg) ?_
  conv => whnf
  exact fin0 (congrArg (fun b : Bool => [V.bool b]) (any_idx l p)) trivial
theorem ract_good (x : Act) (m : Int) (hb : actB x) : Good Tryz.prog 124 [.agg x.c, .int .i64 m] [] [.bool (actOk m x)] [] := by
  obtain ⟨k, n, a, w⟩ := x
  obtain ⟨b1, b2, b3⟩ := hb
  dsimp only at b1 b2 b3
  refine good_of hP Tryz.func124 (by kernel_rfl) (lv := [0, 1, 2, 4, 6, 7, 29]) (js := []) ⟨rfl, rfl, rfl, rfl, rfl, rfl, _, rfl, ?_⟩
  unfold actOk
  dsimp only
  conv => whnf
  refine branch_of (fun h1 => ?_) (fun h1 => ?_)
  · have h1 : k = 1 := of_decide_eq_true h1
    rw [if_pos h1]
    conv => whnf
    refine call0 (fname_good n b1) ?_
    cases nameS n with
    | false =>
      conv => whnf
      exact fin0 rfl trivial
    | true =>
    rw [Bool.true_and]
    conv => whnf
    cases hw : decide (w = 0) with
    | false =>
      conv => whnf
      exact fin0 rfl trivial
    | true =>
    rw [Bool.true_and]
    conv => whnf
    have e : decide ((((opsV a).length : Nat) : Int) ≤ 5) = decide (a.length ≤ 5) := by rw [decide_eq_decide, List.length_map]; omega
    rw [e]
    cases decide (a.length ≤ 5) with
    | false =>
      conv => whnf
      exact fin0 rfl trivial
    | true =>
    rw [Bool.true_and]
    conv => whnf
    refine call0 (containsOps_good a b2 190 (fun l => !exprOk l) (fun t ht => aclos_good t (b3 t ht))) ?_
    conv => whnf
    refine fin0 ?_ trivial
    rw [List.any_eq_not_all_not]
    simp
  have h1 : ¬ k = 1 := of_decide_eq_false h1
  rw [if_neg h1]
  conv => whnf
  refine branch_of (fun h2 => ?_) (fun h2 => ?_)
  · have h2 : k = 2 := of_decide_eq_true h2
    rw [if_pos h2]
    conv => whnf
    cases hn : decide (n = []) with
    | false =>
      conv => whnf
      exact fin0 rfl trivial
    | true =>
    rw [Bool.true_and]
    conv => whnf
    have e : decide ((((opsV a).length : Nat) : Int) = 0) = decide (a = []) := by
      rw [decide_eq_decide, List.length_map]
      exact ⟨fun e => List.eq_nil_of_length_eq_zero (by omega), fun e => by rw [e]; rfl⟩
    rw [e]
    cases decide (a = []) with
    | false =>
      conv => whnf
      exact fin0 rfl trivial
    | true =>
    rw [Bool.true_and]
    conv => whnf
    refine branch_of (fun h3 => ?_) (fun h3 => ?_)
    · have h3 := of_decide_eq_true h3
      conv => whnf
      exact fin0 (by rw [show decide (0 ≤ w ∧ w < m) = decide (w < m) from by rw [decide_eq_decide]; dsimp only at h3; omega]) trivial
    · have h3 := of_decide_eq_false h3
      conv => whnf
      exact fin0 (by rw [decide_eq_false (by dsimp only at h3; omega)]) trivial
  have h2 : ¬ k = 2 := of_decide_eq_false h2
  rw [if_neg h2]
  conv => whnf
  exact fin0 rfl trivial
theorem cclos_good (x : Act) (m : Int) (hb : actB x) : Good Tryz.prog 123 [.agg x.c, .ptr 0 0 0] [.box 0 [.int .i64 m]] [.bool (!actOk m x)] [.box 0 [.int .i64 m]] := by
  refine good_of hP Tryz.func123 (by kernel_rfl) (lv := [0, 1, 2, 3]) (js := []) ⟨rfl, rfl, rfl, rfl, rfl, rfl, _, rfl, ?_⟩
  conv => whnf
  refine call0 (ract_good x m hb) ?_
  conv => whnf
  refine ⟨[], rfl, ?_⟩
  conv => whnf
  exact ⟨⟨⟩, rfl, trivial⟩
end Go.PV
namespace Go.PV
open Go Go.Proofs
set_option maxRecDepth 100000
theorem indexAct_good (l : List Act) (hl : l.length ≤ 1000000) (g : FuncId) (m : Int) (p : Act → Bool) (hg : ∀ t ∈ l, Good Tryz.prog g [.agg t.c, .ptr 0 0 0] [.box 0 [.int .i64 m]] [.bool (p t)] [.box 0 [.int .i64 m]]) : Good Tryz.prog 188 [.sl 4 (actV l), .fn g [.ptr 0 0 0]] [.box 0 [.int .i64 m]] [.int .i64 (match l.findIdx? p with | some i => (i : Int) | none => -1)] [.box 0 [.int .i64 m]] := by
  refine good_of hP Tryz.func188 (by kernel_rfl) (lv := [0, 1, 4, 5, 7, 8, 9, 16]) (js := []) ⟨rfl, rfl, rfl, rfl, rfl, rfl, _, rfl, ?_⟩
  conv => whnf
  refine loop_of hP [0, 1, 4, 5, 7, 8, 9, 16] [] [0, 1, 7, 8] [0] [] (fun n st => ∃ k : Nat, n = l.length - k ∧ k ≤ l.length ∧ (∀ j (h : j < l.length), j < k → p l[j] = false) ∧ st = ⟨[(0, .sl 4 (actV l)), (1, .fn g [.ptr 0 0 0]), (7, .int .i64 l.length), (8, .int .i64 k)], [(0, .box 0 [.int .i64 m])]⟩) l.length ?_ ?_
  · conv => whnf
    exact ⟨0, rfl, Nat.zero_le _, fun j _ h => by omega, by rw [← List.length_map (f := Act.c)]; rfl⟩
  · rintro n st ⟨k, rfl, hk, hn, rfl⟩
    conv => whnf
    refine branch_of (fun h => ?_) (fun h => ?_)
    · have h := of_decide_eq_true h
      have hk' : k < l.length := by omega
      conv => whnf
      refine ⟨Act.c l[k], idxM hk' rfl, ?_⟩
      conv => whnf
      refine callN [(0, 0)] (hg _ (List.getElem_mem hk')) ?_ 
      conv => whnf
      refine ⟨⟨⟩, rfl, ?_⟩
      cases hp : p l[k] with
      | true =>
        have : l.findIdx? p = some k := by
          rw [List.findIdx?_eq_some_iff_getElem]
          exact ⟨hk', hp, fun j hj => by simpa using hn j (by omega) hj⟩
        rw [this]
        conv => whnf
        refine ⟨[], rfl, ?_⟩
        conv => whnf
        exact ⟨⟨⟩, rfl, trivial⟩
      | false =>
        conv => whnf
        refine ⟨l.length - (k + 1), by omega, k + 1, rfl, by omega, fun j hj hjk => ?_, ?_⟩
        · by_cases e : j = k
          · subst e; exact hp
          · exact hn j hj (by omega)
        · rw [wr (by omega) (by omega)]; rfl
    · have h := of_decide_eq_false h
      have : l.findIdx? p = none := by
        rw [List.findIdx?_eq_none_iff]
        intro x hx
        obtain ⟨j, hj, rfl⟩ := List.getElem_of_mem hx
        exact hn j hj (by omega)
      rw [this]
      conv => whnf
      refine ⟨[], rfl, ?_⟩
      conv => whnf
      exact ⟨⟨⟩, rfl, trivial⟩
theorem containsAct_good (l : List Act) (hl : l.length ≤ 1000000) (g : FuncId) (m : Int) (p : Act → Bool) (hg : ∀ t ∈ l, Good Tryz.prog g [.agg t.c, .ptr 0 0 0] [.box 0 [.int .i64 m]] [.bool (p t)] [.box 0 [.int .i64 m]]) : Good Tryz.prog 122 [.sl 4 (actV l), .fn g [.ptr 0 0 0]] [.box 0 [.int .i64 m]] [.bool (l.any p)] [.box 0 [.int .i64 m]] := by
  refine good_of hP Tryz.func122 (by kernel_rfl) (lv := [0, 1, 4]) (js := []) ⟨rfl, rfl, rfl, rfl, rfl, rfl, _, rfl, ?_⟩
  conv => whnf
  refine callN [(0, 0)] (indexAct_good l hl g m p hg) ?_ 
  conv => whnf
  refine ⟨⟨⟩, rfl, ?_⟩
  rw [← any_idx l p]
  conv => whnf
  refine ⟨[], rfl, ?_⟩
  conv => whnf
  exact ⟨⟨⟩, rfl, trivial⟩
theorem hasN_take (l : List Cnd) {k : Nat} (h : k < l.length) : hasN (l.take (k + 1)) = hasN (l.take k) + (if l[k].k = 1 then 1 else 0) := by
  unfold hasN
  rw [← List.take_append_getElem h, List.filter_append, List.length_append]
  congr 1
  by_cases hk : l[k].k = 1
  · simp [hk]
  · simp [hk]
theorem hasN_le (l : List Cnd) : hasN l ≤ l.length := List.length_filter_le _ _
theorem rcheck_good (r : Rul) (hb : rulB r) : Good Tryz.prog 59 [.agg r.v] [] [.int .i64 (if ruleOk r then 0 else 1)] [] := by
  obtain ⟨n, p, c, a⟩ := r
  obtain ⟨b1, b2, b3, b4, b5⟩ := hb
  dsimp only at b1 b2 b3 b4 b5
  refine good_of hP Tryz.func59 (by kernel_rfl) (lv := [0, 1, 2, 3, 5, 51, 53, 54, 55, 56, 61, 64, 71]) (js := []) ⟨rfl, rfl, rfl, rfl, rfl, rfl, _, rfl, ?_⟩
  unfold ruleOk
  dsimp only
  conv => whnf
  refine call0 (fname_good n b1) ?_
  cases nameS n with
  | false =>
    conv => whnf
    exact fin0 rfl trivial
  | true =>
  rw [Bool.true_and]
  conv => whnf
  refine branch_of (fun h1 => ?_) (fun h1 => ?_)
  · have h1 := of_decide_eq_true h1
    have e : decide (-1000 ≤ p ∧ p ≤ 1000) = false := decide_eq_false (by dsimp only at h1; omega)
    rw [e]
    conv => whnf
    exact fin0 rfl trivial
  have h1 := of_decide_eq_false h1
  conv => whnf
  refine branch_of (fun h2 => ?_) (fun h2 => ?_)
  · have h2 := of_decide_eq_true h2
    have e : decide (-1000 ≤ p ∧ p ≤ 1000) = false := decide_eq_false (by dsimp only at h2; omega)
    rw [e]
    conv => whnf
    exact fin0 rfl trivial
  have h2 := of_decide_eq_false h2
  have e : decide (-1000 ≤ p ∧ p ≤ 1000) = true := decide_eq_true (by dsimp only at h1 h2; omega)
  rw [e, Bool.true_and]
  conv => whnf
  refine branch_of (fun h3 => ?_) (fun h3 => ?_)
  · have h3 := of_decide_eq_true h3
    rw [List.length_map] at h3
    have e : decide (1 ≤ c.length ∧ c.length ≤ 6) = false := decide_eq_false (by dsimp only at h3; omega)
    rw [e]
    conv => whnf
    exact fin0 rfl trivial
  have h3 := of_decide_eq_false h3
  rw [List.length_map] at h3
  conv => whnf
  refine branch_of (fun h4 => ?_) (fun h4 => ?_)
  · have h4 := of_decide_eq_true h4
    rw [List.length_map] at h4
    have e : decide (1 ≤ c.length ∧ c.length ≤ 6) = false := decide_eq_false (by dsimp only at h4; omega)
    rw [e]
    conv => whnf
    exact fin0 rfl trivial
  have h4 := of_decide_eq_false h4
  rw [List.length_map] at h4
  dsimp only at h3 h4
  have e : decide (1 ≤ c.length ∧ c.length ≤ 6) = true := decide_eq_true (by omega)
  rw [e, Bool.true_and]
  have h0 : 0 < c.length := by omega
  have e0 : headK c = c[0].k := by cases c with
    | nil => simp at h0
    | cons x r => rfl
  rw [e0]
  conv => whnf
  refine ⟨Cnd.c c[0], idxM h0 rfl, ?_⟩
  conv => whnf
  refine branch_of (fun h5 => ?_) (fun h5 => ?_)
  · rw [Bool.not_eq_true'] at h5
    have h5 : decide (c[0].k = 1) = false := h5
    rw [h5]
    conv => whnf
    exact fin0 rfl trivial
  rw [Bool.not_eq_false'] at h5
  have h5 : decide (c[0].k = 1) = true := h5
  rw [h5, Bool.true_and]
  conv => whnf
  refine branch_of (fun h6 => ?_) (fun h6 => ?_)
  · have h6 := of_decide_eq_true h6
    rw [List.length_map] at h6
    have e : decide (1 ≤ a.length ∧ a.length ≤ 6) = false := decide_eq_false (by dsimp only at h6; omega)
    rw [e]
    conv => whnf
    exact fin0 rfl trivial
  have h6 := of_decide_eq_false h6
  rw [List.length_map] at h6
  conv => whnf
  refine branch_of (fun h7 => ?_) (fun h7 => ?_)
  · have h7 := of_decide_eq_true h7
    rw [List.length_map] at h7
    have e : decide (1 ≤ a.length ∧ a.length ≤ 6) = false := decide_eq_false (by dsimp only at h7; omega)
    rw [e]
    conv => whnf
    exact fin0 rfl trivial
  have h7 := of_decide_eq_false h7
  rw [List.length_map] at h7
  dsimp only at h6 h7
  have e : decide (1 ≤ a.length ∧ a.length ≤ 6) = true := decide_eq_true (by omega)
  rw [e, Bool.true_and]
  conv => whnf
  refine loop_of hP [0, 1, 2, 3, 5, 51, 53, 54, 55, 56, 61, 64, 71] [] [1, 2, 3, 53, 54, 55] [65, 67] [] (fun m st => ∃ k : Nat, m = c.length - k ∧ k ≤ c.length ∧ c.all condOk = (c.drop k).all condOk ∧ st = ⟨[(1, .ptr 65 0 0), (2, .int .i64 0), (3, .ptr 67 0 0), (53, .sl 6 (cndV c)), (54, .int .i64 c.length), (55, .int .i64 k)], [(65, .box 0 (Rul.v ⟨n, p, c, a⟩)), (67, .box 0 [.int .i64 (hasN (c.take k))])]⟩) c.length ?_ ?_
  · conv => whnf
    exact ⟨0, rfl, Nat.zero_le _, rfl, by rw [← List.length_map (f := Cnd.c)]; rfl⟩
  · rintro m st ⟨k, rfl, hk, he, rfl⟩
    conv => whnf
    refine branch_of (fun h => ?_) (fun h => ?_)
    · have h := of_decide_eq_true h
      have hk' : k < c.length := by omega
      rw [List.drop_eq_getElem_cons hk', List.all_cons] at he
      have hht := hasN_take c hk'
      have hhl := hasN_le (c.take k)
      rw [List.length_take] at hhl
      conv => whnf
      refine ⟨Cnd.c c[k], idxM hk' rfl, ?_⟩
      conv => whnf
      refine call0 (rcond_good c[k] (b3 _ (List.getElem_mem hk'))) ?_
      cases hc : condOk c[k] with
      | false =>
        rw [hc, Bool.false_and] at he
        rw [he]
        conv => whnf
        exact fin0 rfl trivial
      | true =>
        rw [hc, Bool.true_and] at he
        conv => whnf
        refine branch_of (fun g => ?_) (fun g => ?_)
        · have g : c[k].k = 1 := of_decide_eq_true g
          rw [if_pos g] at hht
          conv => whnf
          refine ⟨c.length - (k + 1), by omega, k + 1, rfl, by omega, he, ?_⟩
          rw [hht, wr (by omega) (by omega), wr (by omega) (by omega)]; rfl
        · have g : ¬ c[k].k = 1 := of_decide_eq_false g
          rw [if_neg g, Nat.add_zero] at hht
          conv => whnf
          refine ⟨c.length - (k + 1), by omega, k + 1, rfl, by omega, he, ?_⟩
          rw [hht, wr (by omega) (by omega)]; rfl
    · have h := of_decide_eq_false h
      have hd : c.drop k = [] := List.drop_eq_nil_iff.2 (by omega)
      rw [hd] at he
      rw [he, List.take_of_length_le (by omega), show (([] : List Cnd).all condOk) = true from rfl, Bool.true_and]
      conv => whnf
      refine callN [(67, 0)] (containsAct_good a b4 123 (hasN c) (fun x => !actOk (hasN c) x) (fun t ht => cclos_good t (hasN c) (b5 t ht))) ?_ 
      conv => whnf
      refine ⟨⟨⟩, rfl, ?_⟩
      have e9 : (a.any fun x => !actOk (hasN c) x) = !(a.all (actOk (hasN c))) := by rw [List.any_eq_not_all_not]; simp
      rw [e9]
      cases a.all (actOk (hasN c)) with
      | true =>
        conv => whnf
        exact fin0 rfl trivial
      | false =>
        conv => whnf
        exact fin0 rfl trivial
end Go.PV
namespace Go.PV
open Go Go.Proofs
set_option maxRecDepth 100000
theorem ways_good : Good Tryz.prog 171 [] [] [.sl 1 (strV wayL)] [] := by
  refine good_of hP Tryz.func171 (by kernel_rfl) (lv := [0]) (js := []) ⟨rfl, rfl, rfl, rfl, rfl, rfl, _, rfl, ?_⟩
  conv => whnf
  exact fin0 rfl trivial
theorem condText_good (c : Cnd) (hb : cndB c) (hk : condOk c = true) : Good Tryz.prog 109 [.agg c.c] [] [.str (condT c)] [] := by
  have h3 := condOk_3 hk
  have hn := condOk_n hk
  obtain ⟨k, a, h, l, r⟩ := c
  obtain ⟨b1, b2, b3, b4, b5, b6, b7⟩ := hb
  dsimp only at b1 b2 b3 b4 b5 b6 b7 h3 hn
  refine good_of hP Tryz.func109 (by kernel_rfl) (lv := [0, 1, 2, 3, 5, 7, 11, 46]) (js := []) ⟨rfl, rfl, rfl, rfl, rfl, rfl, _, rfl, ?_⟩
  unfold condT
  dsimp only
  conv => whnf
  refine branch_of (fun h1 => ?_) (fun h1 => ?_)
  · have h1 : k = 3 := of_decide_eq_true h1
    rw [if_pos h1]
    obtain ⟨_, q1, q2, q3, q4⟩ := h3 h1
    have l1 := exprT_len q3
    have l2 := exprT_len q4
    have l3 := wayT_len h
    conv => whnf
    refine call0 (exprText_good l ⟨b4, b5⟩) ?_
    rw [q3, if_pos rfl]
    conv => whnf
    refine call0 (exprText_good r ⟨b6, b7⟩) ?_
    rw [q4, if_pos rfl]
    conv => whnf
    refine ⟨⟨⟩, by show 1 + (exprT l).length ≤ 9223372036854775807; omega, ?_⟩
    conv => whnf
    refine ⟨⟨⟩, by show (([91] : Bs) ++ exprT l).length + 1 ≤ 9223372036854775807; simp only [List.length_append, List.length_cons, List.length_nil]; omega, ?_⟩
    conv => whnf
    refine call0 (ways_good) ?_
    obtain ⟨j, hj⟩ : ∃ j : Nat, h = j + 1 := ⟨(h - 1).toNat, by omega⟩
    have hjl : j < wayL.length := by show j < 4; omega
    have hw : IntKind.i64.wrap (h - 1) = (j : Int) := by rw [wr (by omega) (by omega)]; omega
    have hwt : wayL[j] = wayT h := by
      unfold wayT
      rw [show (h - 1).toNat = j by omega]
      exact List.getElem_eq_getD _
    conv => whnf
    have hw' : IntKind.i64.wrap (Cnd.h ⟨k, a, h, l, r⟩ - 1) = (j : Int) := hw
    rw [hw']
    refine ⟨[.str (wayT h)], by rw [← hwt]; exact idxM (f := fun t : Bs => [V.str t]) hjl rfl, ?_⟩
    conv => whnf
    generalize wayT h = w at *
    refine ⟨⟨⟩, by show (([91] : Bs) ++ exprT l ++ [32]).length + w.length ≤ 9223372036854775807; simp only [List.length_append, List.length_cons, List.length_nil]; omega, ?_⟩
    conv => whnf
    refine ⟨⟨⟩, by show (([91] : Bs) ++ exprT l ++ [32] ++ w).length + 1 ≤ 9223372036854775807; simp only [List.length_append, List.length_cons, List.length_nil]; omega, ?_⟩
    conv => whnf
    refine ⟨⟨⟩, by show (([91] : Bs) ++ exprT l ++ [32] ++ w ++ [32]).length + (exprT r).length ≤ 9223372036854775807; simp only [List.length_append, List.length_cons, List.length_nil]; omega, ?_⟩
    conv => whnf
    refine ⟨⟨⟩, by show (([91] : Bs) ++ exprT l ++ [32] ++ w ++ [32] ++ exprT r).length + 1 ≤ 9223372036854775807; simp only [List.length_append, List.length_cons, List.length_nil]; omega, ?_⟩
    conv => whnf
    refine ⟨by kernel_rfl, ?_⟩
    conv => whnf
    exact fin0 rfl trivial
  have h1 : ¬ k = 3 := of_decide_eq_false h1
  rw [if_neg h1]
  obtain ⟨_, _, _, _, q1⟩ := hn h1
  have l1 := atomT_len q1
  conv => whnf
  refine call0 (atomText_good a ⟨b1, b2, b3⟩) ?_
  rw [q1, if_pos rfl]
  conv => whnf
  refine branch_of (fun h2 => ?_) (fun h2 => ?_)
  · have h2 : k = 2 := of_decide_eq_true h2
    rw [if_pos h2]
    conv => whnf
    refine ⟨⟨⟩, by show 4 + (atomT a).length ≤ 9223372036854775807; omega, ?_⟩
    conv => whnf
    exact fin0 rfl trivial
  · have h2 : ¬ k = 2 := of_decide_eq_false h2
    rw [if_neg h2]
    conv => whnf
    exact fin0 rfl trivial
theorem actText_good (x : Act) (m : Int) (hm : m ≤ 1000) (hb : actB x) (hk : actOk m x = true) : Good Tryz.prog 110 [.agg x.c] [] [.str (actT x)] [] := by
  have h2 := actOk_2 hk
  have h1 := actOk_1 hk
  have hal := actT_len hm hk
  obtain ⟨k, n, a, w⟩ := x
  obtain ⟨b1, b2, b3⟩ := hb
  dsimp only at b1 b2 b3 h1 h2
  refine good_of hP Tryz.func110 (by kernel_rfl) (lv := [0, 1, 2, 3, 5, 6, 10, 16, 17, 18, 19, 34]) (js := []) ⟨rfl, rfl, rfl, rfl, rfl, rfl, _, rfl, ?_⟩
  unfold actT at hal ⊢
  dsimp only at hal ⊢
  conv => whnf
  refine branch_of (fun g => ?_) (fun g => ?_)
  · have g : k = 2 := of_decide_eq_true g
    rw [if_pos g] at hal ⊢
    obtain ⟨_, _, q1, q2⟩ := h2 g
    conv => whnf
    refine call0 (itoa_good w (by omega) (by omega)) ?_
    rw [List.length_append] at hal
    conv => whnf
    refine ⟨⟨⟩, by show 5 + (Lib.itoa w).length ≤ 9223372036854775807; omega, ?_⟩
    conv => whnf
    exact fin0 rfl trivial
  have g : ¬ k = 2 := of_decide_eq_false g
  rw [if_neg g] at hal ⊢
  obtain ⟨_, q1, q2, q3, q4⟩ := h1 g
  conv => whnf
  refine loop_of hP [0, 1, 2, 3, 5, 6, 10, 16, 17, 18, 19, 34] [] [1, 2, 3, 16, 17, 18] [65, 67] [.slot 3 1] (fun mm st => ∃ i : Nat, mm = a.length - i ∧ i ≤ a.length ∧ st = ⟨[(1, .ptr 65 0 0), (2, .str []), (3, .own 67 0), (16, .sl 1 (opsV a)), (17, .int .i64 a.length), (18, .int .i64 i)], [(65, .box 0 (Act.c ⟨k, n, a, w⟩)), (67, .arr 0 false 1 (strV ((a.take i).map exprT)))]⟩) a.length ?_ ?_
  · conv => whnf
    exact ⟨0, rfl, Nat.zero_le _, by rw [← List.length_map (f := fun x : List Stp => [V.sl 5 (stpV x)])]; rfl⟩
  · rintro mm st ⟨i, rfl, hi, rfl⟩
    conv => whnf
    refine branch_of (fun h => ?_) (fun h => ?_)
    · have h := of_decide_eq_true h
      have hi' : i < a.length := by omega
      have hok : exprOk a[i] = true := List.all_eq_true.1 q4 _ (List.getElem_mem hi')
      conv => whnf
      refine ⟨[.sl 5 (stpV a[i])], idxM hi' rfl, ?_⟩
      conv => whnf
      refine call0 (exprText_good a[i] (b3 _ (List.getElem_mem hi'))) ?_
      rw [hok, if_pos rfl]
      conv => whnf
      refine ⟨⟨⟩, by dsimp only; simp only [List.length_map, List.length_take, List.length_cons, List.length_nil]; omega, ?_⟩
      conv => whnf
      refine ⟨a.length - (i + 1), by omega, i + 1, rfl, by omega, ?_⟩
      rw [wr (by omega) (by omega), map_snoc _ a hi', show strV ((a.take i).map exprT ++ [exprT a[i]]) = strV ((a.take i).map exprT) ++ [[.str (exprT a[i])]] from List.map_append]
      rfl
    · have h := of_decide_eq_false h
      rw [List.take_of_length_le (by omega)]
      conv => whnf
      refine branch_of (fun h5 => ?_) (fun h5 => ?_)
      · have h5 := of_decide_eq_true h5
        rw [List.length_map, List.length_map] at h5
        have hz : a = [] := List.eq_nil_of_length_eq_zero (by omega)
        rw [if_pos hz]
        conv => whnf
        refine ⟨⟨⟩, by show 1 + n.length ≤ 9223372036854775807; omega, ?_⟩
        conv => whnf
        exact fin0 rfl trivial
      · have h5 := of_decide_eq_false h5
        rw [List.length_map, List.length_map] at h5
        have hz : a ≠ [] := fun e => by rw [e] at h5; exact h5 rfl
        rw [if_neg hz] at hal ⊢
        simp only [List.length_append, List.length_cons, List.length_nil] at hal
        conv => whnf
        refine ⟨⟨⟩, by show 1 + n.length ≤ 9223372036854775807; omega, ?_⟩
        conv => whnf
        refine ⟨⟨⟩, by show (([43] : Bs) ++ n).length + 1 ≤ 9223372036854775807; simp only [List.length_append, List.length_cons, List.length_nil]; omega, ?_⟩
        conv => whnf
        refine call0 (join_good (a.map exprT) [44, 32] (by simp; omega) (by omega)) ?_
        conv => whnf
        refine ⟨⟨⟩, by show (([43] : Bs) ++ n ++ [40]).length + (Lib.join (a.map exprT) [44, 32]).length ≤ 9223372036854775807; simp only [List.length_append, List.length_cons, List.length_nil]; omega, ?_⟩
        conv => whnf
        refine ⟨⟨⟩, by show (([43] : Bs) ++ n ++ [40] ++ Lib.join (a.map exprT) [44, 32]).length + 1 ≤ 9223372036854775807; simp only [List.length_append, List.length_cons, List.length_nil]; omega, ?_⟩
        conv => whnf
        refine ⟨by kernel_rfl, ?_⟩
        conv => whnf
        exact fin0 rfl trivial
end Go.PV
namespace Go.PV
open Go Go.Proofs
set_option maxRecDepth 100000
theorem rtext_good (r : Rul) (hb : rulB r) : Good Tryz.prog 52 [.agg r.v] [] [.str (ruleX r), .int .i64 (ruleE r)] [] := by
  obtain ⟨b1, b2, b3, b4, b5⟩ := hb
  refine good_of hP Tryz.func52 (by kernel_rfl) (lv := [0, 1, 2, 3, 4, 5, 6, 8, 10, 11, 15, 18, 19, 20, 21, 31, 32, 33, 34, 62]) (js := []) ⟨rfl, rfl, rfl, rfl, rfl, rfl, _, rfl, ?_⟩
  conv => whnf
  refine call0 (rcheck_good r ⟨b1, b2, b3, b4, b5⟩) ?_
  unfold ruleX ruleE
  cases hk : ruleOk r with
  | false =>
    conv => whnf
    exact fin0 rfl trivial
  | true =>
  rw [if_pos rfl, if_pos rfl]
  obtain ⟨h1, h2, h3, h4, h5, h6, h7, h8, h9, h10⟩ := ruleOk_all hk
  obtain ⟨l1, l2, l3, l4, l5⟩ := ruleT_len hk
  have hh := hasN_len r.c
  obtain ⟨n, p, c, a⟩ := r
  dsimp only at b1 b2 b3 b4 b5 h1 h2 h3 h4 h5 h6 h7 h8 h9 h10 l2 l3 l4 l5 hh
  conv => whnf
  refine loop_of hP [0, 1, 2, 3, 4, 5, 6, 8, 10, 11, 15, 18, 19, 20, 21, 31, 32, 33, 34, 62] [] [1, 2, 3, 5, 6, 18, 19, 20] [65, 69] [.slot 5 1] (fun mm st => ∃ i : Nat, mm = c.length - i ∧ i ≤ c.length ∧ st = ⟨[(1, .ptr 65 0 0), (2, .str []), (3, .int .i64 0), (5, .own 69 0), (6, .nil), (18, .sl 6 (cndV c)), (19, .int .i64 c.length), (20, .int .i64 i)], [(65, .box 0 (Rul.v ⟨n, p, c, a⟩)), (69, .arr 0 false 1 (strV ((c.take i).map condT)))]⟩) c.length ?_ ?_
  · conv => whnf
    exact ⟨0, rfl, Nat.zero_le _, by rw [← List.length_map (f := Cnd.c)]; rfl⟩
  · rintro mm st ⟨i, rfl, hi, rfl⟩
    conv => whnf
    refine branch_of (fun h => ?_) (fun h => ?_)
    · have h := of_decide_eq_true h
      have hi' : i < c.length := by omega
      have hm := List.getElem_mem hi'
      conv => whnf
      refine ⟨Cnd.c c[i], idxM hi' rfl, ?_⟩
      conv => whnf
      refine call0 (condText_good c[i] (b3 _ hm) (h9 _ hm)) ?_
      conv => whnf
      refine ⟨⟨⟩, by dsimp only; simp only [List.length_map, List.length_take, List.length_cons, List.length_nil]; omega, ?_⟩
      conv => whnf
      refine ⟨c.length - (i + 1), by omega, i + 1, rfl, by omega, ?_⟩
      rw [wr (by omega) (by omega), map_snoc _ c hi', show strV ((c.take i).map condT ++ [condT c[i]]) = strV ((c.take i).map condT) ++ [[.str (condT c[i])]] from List.map_append]
      rfl
    · have h := of_decide_eq_false h
      rw [List.take_of_length_le (by omega)]
      conv => whnf
      refine loop_of hP [0, 1, 2, 3, 4, 5, 6, 8, 10, 11, 15, 18, 19, 20, 21, 31, 32, 33, 34, 62] [] [1, 2, 3, 5, 6, 31, 32, 33] [65, 69, 70] [.slot 6 1] (fun mm st => ∃ i : Nat, mm = a.length - i ∧ i ≤ a.length ∧ st = ⟨[(1, .ptr 65 0 0), (2, .str []), (3, .int .i64 0), (5, .own 69 0), (6, .own 70 0), (31, .sl 4 (actV a)), (32, .int .i64 a.length), (33, .int .i64 i)], [(65, .box 0 (Rul.v ⟨n, p, c, a⟩)), (69, .arr 0 false 1 (strV (c.map condT))), (70, .arr 0 false 1 (strV ((a.take i).map actT)))]⟩) a.length ?_ ?_
      · conv => whnf
        exact ⟨0, rfl, Nat.zero_le _, by rw [← List.length_map (f := Act.c)]; rfl⟩
      · rintro mm st ⟨j, rfl, hj, rfl⟩
        conv => whnf
        refine branch_of (fun g => ?_) (fun g => ?_)
        · have g := of_decide_eq_true g
          have hj' : j < a.length := by omega
          have hm := List.getElem_mem hj'
          conv => whnf
          refine ⟨Act.c a[j], idxM hj' rfl, ?_⟩
          conv => whnf
          refine call0 (actText_good a[j] (hasN c) (by omega) (b5 _ hm) (h10 _ hm)) ?_
          conv => whnf
          refine ⟨⟨⟩, by dsimp only; simp only [List.length_map, List.length_take, List.length_cons, List.length_nil]; omega, ?_⟩
          conv => whnf
          refine ⟨a.length - (j + 1), by omega, j + 1, rfl, by omega, ?_⟩
          rw [wr (by omega) (by omega), map_snoc _ a hj', show strV ((a.take j).map actT ++ [actT a[j]]) = strV ((a.take j).map actT) ++ [[.str (actT a[j])]] from List.map_append]
          rfl
        · have g := of_decide_eq_false g
          rw [List.take_of_length_le (by omega)]
          conv => whnf
          refine ⟨⟨⟩, by show 5 + n.length ≤ 9223372036854775807; omega, ?_⟩
          conv => whnf
          refine ⟨⟨⟩, by show (([114, 117, 108, 101, 32] : Bs) ++ n).length + 1 ≤ 9223372036854775807; simp only [List.length_append, List.length_cons, List.length_nil]; omega, ?_⟩
          conv => whnf
          refine call0 (itoa_good p (by omega) (by omega)) ?_
          conv => whnf
          refine ⟨⟨⟩, by show (([114, 117, 108, 101, 32] : Bs) ++ n ++ [32]).length + (Lib.itoa p).length ≤ 9223372036854775807; simp only [List.length_append, List.length_cons, List.length_nil]; omega, ?_⟩
          conv => whnf
          refine ⟨⟨⟩, by show (([114, 117, 108, 101, 32] : Bs) ++ n ++ [32] ++ Lib.itoa p).length + 2 ≤ 9223372036854775807; simp only [List.length_append, List.length_cons, List.length_nil]; omega, ?_⟩
          conv => whnf
          refine call0 (join_good (c.map condT) [44, 32] (by simp; omega) (by omega)) ?_
          conv => whnf
          refine ⟨⟨⟩, by show (([114, 117, 108, 101, 32] : Bs) ++ n ++ [32] ++ Lib.itoa p ++ [58, 32]).length + (Lib.join (c.map condT) [44, 32]).length ≤ 9223372036854775807; simp only [List.length_append, List.length_cons, List.length_nil]; omega, ?_⟩
          conv => whnf
          refine ⟨⟨⟩, by show (([114, 117, 108, 101, 32] : Bs) ++ n ++ [32] ++ Lib.itoa p ++ [58, 32] ++ Lib.join (c.map condT) [44, 32]).length + 4 ≤ 9223372036854775807; simp only [List.length_append, List.length_cons, List.length_nil]; omega, ?_⟩
          conv => whnf
          refine call0 (join_good (a.map actT) [44, 32] (by simp; omega) (by omega)) ?_
          conv => whnf
          refine ⟨⟨⟩, by show (([114, 117, 108, 101, 32] : Bs) ++ n ++ [32] ++ Lib.itoa p ++ [58, 32] ++ Lib.join (c.map condT) [44, 32] ++ [32, 45, 62, 32]).length + (Lib.join (a.map actT) [44, 32]).length ≤ 9223372036854775807; simp only [List.length_append, List.length_cons, List.length_nil]; omega, ?_⟩
          conv => whnf
          refine ⟨⟨⟩, by show (([114, 117, 108, 101, 32] : Bs) ++ n ++ [32] ++ Lib.itoa p ++ [58, 32] ++ Lib.join (c.map condT) [44, 32] ++ [32, 45, 62, 32] ++ Lib.join (a.map actT) [44, 32]).length + 1 ≤ 9223372036854775807; simp only [List.length_append, List.length_cons, List.length_nil]; omega, ?_⟩
          conv => whnf
          refine ⟨by kernel_rfl, ?_⟩
          conv => whnf
          refine branch_of (fun q => ?_) (fun q => ?_)
          · have q : 20000 < ((ruleT ⟨n, p, c, a⟩).length : Int) := of_decide_eq_true q
            rw [if_pos (show 20000 < (ruleT ⟨n, p, c, a⟩).length by omega), if_neg (by omega)]
            conv => whnf
            exact fin0 rfl trivial
          · have q : ¬ 20000 < ((ruleT ⟨n, p, c, a⟩).length : Int) := of_decide_eq_false q
            rw [if_neg (show ¬ 20000 < (ruleT ⟨n, p, c, a⟩).length by omega), if_pos rfl]
            conv => whnf
            exact fin0 rfl trivial
theorem rword_good (r : Rd) (t : Bs) (hl : r.l.length ≤ 1000000) : Good Tryz.prog 153 [.ptr 0 0 0, .str t] [r.ob] [.bool (r.see 1 t)] [(r.word 1 t).ob] := by
  refine good_of hP Tryz.func153 (by kernel_rfl) (lv := [0, 1, 4, 5, 9]) (js := []) ⟨rfl, rfl, rfl, rfl, rfl, rfl, _, rfl, ?_⟩
  unfold Rd.word
  conv => whnf
  refine callN [(0, 0)] (see_good r 1 t hl) ?_ 
  conv => whnf
  refine ⟨⟨⟩, rfl, ?_⟩
  cases h : r.see 1 t with
  | false =>
    conv => whnf
    refine ⟨[], rfl, ?_⟩
    conv => whnf
    exact ⟨⟨⟩, rfl, trivial⟩
  | true =>
    have := cur_lt' h
    rw [if_pos rfl]
    have hw : IntKind.i64.wrap ((r.i : Int) + 1) = (r.i + 1 : Nat) := by rw [wr (by omega) (by omega)]; rfl
    conv => whnf
    rw [hw]
    refine ⟨[], rfl, ?_⟩
    conv => whnf
    exact ⟨⟨⟩, rfl, trivial⟩
theorem ask_good (r : Rd) (t : Bs) (hl : r.l.length ≤ 1000000) : Good Tryz.prog 92 [.ptr 0 0 0, .str t] [r.ob] [] [(r.want 1 t).ob] := by
  refine good_of hP Tryz.func92 (by kernel_rfl) (lv := [0, 1, 11]) (js := []) ⟨rfl, rfl, rfl, rfl, rfl, rfl, _, rfl, ?_⟩
  unfold Rd.want
  conv => whnf
  refine callN [(0, 0)] (open_good r) ?_ 
  conv => whnf
  refine ⟨⟨⟩, rfl, ?_⟩
  cases ho : r.isOpen with
  | false =>
    have : r.see 1 t = false := by simp [Rd.see, ho]
    rw [this]
    conv => whnf
    refine ⟨[], rfl, ?_⟩
    conv => whnf
    exact ⟨⟨⟩, rfl, trivial⟩
  | true =>
    conv => whnf
    refine callN [(0, 0)] (rword_good r t hl) ?_ 
    conv => whnf
    refine ⟨⟨⟩, rfl, ?_⟩
    unfold Rd.word
    cases hs : r.see 1 t with
    | true =>
      rw [if_pos rfl, if_pos rfl]
      conv => whnf
      refine ⟨[], rfl, ?_⟩
      conv => whnf
      exact ⟨⟨⟩, rfl, trivial⟩
    | false =>
      conv => whnf
      refine ⟨[], rfl, ?_⟩
      conv => whnf
      exact ⟨⟨⟩, rfl, trivial⟩
theorem rnumber_good (r : Rd) (hb : tokB r.l) : Good Tryz.prog 176 [.ptr 0 0 0] [r.ob] [.int .i64 r.num.1] [r.num.2.ob] := by
  obtain ⟨l, i, b, o, w⟩ := r
  obtain ⟨hl, ht⟩ := hb
  dsimp only at hl ht
  refine good_of hP Tryz.func176 (by kernel_rfl) (lv := [0, 2, 3, 4, 7, 31, 47]) (js := []) ⟨rfl, rfl, rfl, rfl, rfl, rfl, _, rfl, ?_⟩
  unfold Rd.num
  conv => whnf
  refine callN [(0, 0)] (open_good ⟨l, i, b, o, w⟩) ?_ 
  conv => whnf
  refine ⟨⟨⟩, rfl, ?_⟩
  cases ho : Rd.isOpen ⟨l, i, b, o, w⟩ with
  | false =>
    rw [if_neg (by simp)]
    conv => whnf
    refine ⟨[], rfl, ?_⟩
    conv => whnf
    exact ⟨⟨⟩, rfl, trivial⟩
  | true =>
  rw [if_pos rfl]
  conv => whnf
  refine branch_of (fun h => ?_) (fun h => ?_)
  · have h := of_decide_eq_true h
    rw [List.length_map] at h
    have hi : i < l.length := by dsimp only at h; omega
    have hc : Rd.cur ⟨l, i, b, o, w⟩ = some (l[i].k, l[i].t) := by simp [Rd.cur, hi]
    have hw : IntKind.i64.wrap ((i : Int) + 1) = (i + 1 : Nat) := by rw [wr (by omega) (by omega)]; rfl
    rw [hc]
    dsimp only
    conv => whnf
    refine ⟨Tok.c l[i], idxM hi rfl, ?_⟩
    conv => whnf
    refine ⟨by kernel_rfl, ?_⟩
    conv => whnf
    refine branch_of (fun h2 => ?_) (fun h2 => ?_)
    · have h2 : l[i].k = 3 := of_decide_eq_true h2
      rw [if_pos h2]
      conv => whnf
      refine ⟨Tok.c l[i], idxM hi rfl, ?_⟩
      conv => whnf
      refine call0 (number_good l[i].t (ht _ (List.getElem_mem hi))) ?_
      cases hn : numberS l[i].t with
      | none =>
        conv => whnf
        refine ⟨by kernel_rfl, ?_⟩
        conv => whnf
        refine ⟨[], rfl, ?_⟩
        conv => whnf
        exact ⟨⟨⟩, rfl, trivial⟩
      | some v =>
        conv => whnf
        refine ⟨by kernel_rfl, ?_⟩
        conv => whnf
        rw [hw]
        refine ⟨[], rfl, ?_⟩
        conv => whnf
        exact ⟨⟨⟩, rfl, trivial⟩
    · have h2 : ¬ l[i].k = 3 := of_decide_eq_false h2
      rw [if_neg h2]
      conv => whnf
      refine ⟨[], rfl, ?_⟩
      conv => whnf
      exact ⟨⟨⟩, rfl, trivial⟩
  · have h := of_decide_eq_false h
    rw [List.length_map] at h
    have hc : Rd.cur ⟨l, i, b, o, w⟩ = none := by
      unfold Rd.cur; rw [List.getElem?_eq_none (by dsimp only at h ⊢; omega)]; rfl
    rw [hc]
    conv => whnf
    refine ⟨by kernel_rfl, ?_⟩
    conv => whnf
    refine ⟨[], rfl, ?_⟩
    conv => whnf
    exact ⟨⟨⟩, rfl, trivial⟩
end Go.PV
namespace Go.PV
open Go Go.Proofs
set_option maxRecDepth 100000
abbrev rdsO : Ob := .box 0 [.ptr 1 0 0, .own 2 0, .own 3 0]
abbrev frmV (st : List Frm) : List (List V) := st.reverse.map fun f => [.int .i64 f.1, .int .i64 f.2]
abbrev arrN (l : List Nod) : Ob := .arr 0 false 5 (nodV l)
abbrev arrF (st : List Frm) : Ob := .arr 0 false 2 (frmV st)
theorem word_eq (r : Rd) (k : Int) (s : Bs) : r.word k s = if r.see k s then r.step else r := rfl
theorem words1_good (r : Rd) (l : List Nod) (st : List Frm) (hl : r.l.length ≤ 1000000) : Good Tryz.prog 209 [.ptr 0 0 0, .mp 4 0] [rdsO, r.ob, arrN l, arrF st, .box 0 [.md onesM]] [.int .i64 (Rd.wordsR onesL r).1] [rdsO, (Rd.wordsR onesL r).2.ob, arrN l, arrF st, .box 0 [.md onesM]] := by
  refine good_of hP Tryz.func209 (by kernel_rfl) (lv := [0, 1, 4, 5, 6, 7, 9, 26]) (js := []) ⟨rfl, rfl, rfl, rfl, rfl, rfl, _, rfl, ?_⟩
  generalize hU : Rd.wordsR onesL r = U
  conv => whnf
  refine loop_of hP [0, 1, 4, 5, 6, 7, 9, 26] [] [0, 1, 5] [0, 1, 2, 3, 4] [] (fun m s => ∃ j : Nat, m = 7 - j ∧ j ≤ 7 ∧ Rd.wordsR (onesL.filter fun p => decide (((2 + j : Nat) : Int) ≤ p.1)) r = U ∧
    s = ⟨[(0, .ptr 0 0 0), (1, .mp 4 0), (5, .int .i64 ((2 + j : Nat) : Int))], [(0, rdsO), (1, r.ob), (2, arrN l), (3, arrF st), (4, .box 0 [.md onesM])]⟩) 7 ?_ ?_
  · conv => whnf
    exact ⟨0, rfl, by omega, hU, rfl⟩
  · rintro m s ⟨j, rfl, hj, hU, rfl⟩
    rcases j with _ | _ | _ | _ | _ | _ | _ | _ | j
    · have hU : (if r.see 1 [110, 111, 116] then ((2 : Int), r.step) else Rd.wordsR (onesL.filter fun p => decide (((2 + 1 : Nat) : Int) ≤ p.1)) r) = U := hU
      conv => whnf
      refine callN [(1, 0)] (rword_good r [110, 111, 116] hl) ?_ 
      conv => whnf
      refine ⟨⟨⟩, rfl, ?_⟩
      rw [word_eq]
      cases hs : r.see 1 [110, 111, 116] with
      | true =>
        rw [hs, if_pos rfl] at hU
        subst hU
        conv => whnf
        refine ⟨[], rfl, ?_⟩
        conv => whnf
        refine ⟨⟨⟩, rfl, ?_⟩
        conv => whnf
        refine ⟨⟨⟩, rfl, ?_⟩
        conv => whnf
        refine ⟨⟨⟩, rfl, ?_⟩
        conv => whnf
        refine ⟨⟨⟩, rfl, ?_⟩
        conv => whnf
        exact ⟨⟨⟩, rfl, trivial⟩
      | false =>
        rw [hs, if_neg (by simp)] at hU
        conv => whnf
        exact ⟨6, by omega, 1, rfl, by omega, hU, rfl⟩
    · conv => whnf
      exact ⟨5, by omega, 2, rfl, by omega, hU, rfl⟩
    · conv => whnf
      exact ⟨4, by omega, 3, rfl, by omega, hU, rfl⟩
    · have hU : (if r.see 1 [98, 101, 102, 111, 114, 101] then ((5 : Int), r.step) else Rd.wordsR (onesL.filter fun p => decide (((2 + 4 : Nat) : Int) ≤ p.1)) r) = U := hU
      conv => whnf
      refine callN [(1, 0)] (rword_good r [98, 101, 102, 111, 114, 101] hl) ?_ 
      conv => whnf
      refine ⟨⟨⟩, rfl, ?_⟩
      rw [word_eq]
      cases hs : r.see 1 [98, 101, 102, 111, 114, 101] with
      | true =>
        rw [hs, if_pos rfl] at hU
        subst hU
        conv => whnf
        refine ⟨[], rfl, ?_⟩
        conv => whnf
        refine ⟨⟨⟩, rfl, ?_⟩
        conv => whnf
        refine ⟨⟨⟩, rfl, ?_⟩
        conv => whnf
        refine ⟨⟨⟩, rfl, ?_⟩
        conv => whnf
        refine ⟨⟨⟩, rfl, ?_⟩
        conv => whnf
        exact ⟨⟨⟩, rfl, trivial⟩
      | false =>
        rw [hs, if_neg (by simp)] at hU
        conv => whnf
        exact ⟨3, by omega, 4, rfl, by omega, hU, rfl⟩
    · have hU : (if r.see 1 [111, 110, 99, 101] then ((6 : Int), r.step) else Rd.wordsR (onesL.filter fun p => decide (((2 + 5 : Nat) : Int) ≤ p.1)) r) = U := hU
      conv => whnf
      refine callN [(1, 0)] (rword_good r [111, 110, 99, 101] hl) ?_ 
      conv => whnf
      refine ⟨⟨⟩, rfl, ?_⟩
      rw [word_eq]
      cases hs : r.see 1 [111, 110, 99, 101] with
      | true =>
        rw [hs, if_pos rfl] at hU
        subst hU
        conv => whnf
        refine ⟨[], rfl, ?_⟩
        conv => whnf
        refine ⟨⟨⟩, rfl, ?_⟩
        conv => whnf
        refine ⟨⟨⟩, rfl, ?_⟩
        conv => whnf
        refine ⟨⟨⟩, rfl, ?_⟩
        conv => whnf
        refine ⟨⟨⟩, rfl, ?_⟩
        conv => whnf
        exact ⟨⟨⟩, rfl, trivial⟩
      | false =>
        rw [hs, if_neg (by simp)] at hU
        conv => whnf
        exact ⟨2, by omega, 5, rfl, by omega, hU, rfl⟩
    · have hU : (if r.see 1 [97, 108, 119, 97, 121, 115] then ((7 : Int), r.step) else Rd.wordsR (onesL.filter fun p => decide (((2 + 6 : Nat) : Int) ≤ p.1)) r) = U := hU
      conv => whnf
      refine callN [(1, 0)] (rword_good r [97, 108, 119, 97, 121, 115] hl) ?_ 
      conv => whnf
      refine ⟨⟨⟩, rfl, ?_⟩
      rw [word_eq]
      cases hs : r.see 1 [97, 108, 119, 97, 121, 115] with
      | true =>
        rw [hs, if_pos rfl] at hU
        subst hU
        conv => whnf
        refine ⟨[], rfl, ?_⟩
        conv => whnf
        refine ⟨⟨⟩, rfl, ?_⟩
        conv => whnf
        refine ⟨⟨⟩, rfl, ?_⟩
        conv => whnf
        refine ⟨⟨⟩, rfl, ?_⟩
        conv => whnf
        refine ⟨⟨⟩, rfl, ?_⟩
        conv => whnf
        exact ⟨⟨⟩, rfl, trivial⟩
      | false =>
        rw [hs, if_neg (by simp)] at hU
        conv => whnf
        exact ⟨1, by omega, 6, rfl, by omega, hU, rfl⟩
    · conv => whnf
      exact ⟨0, by omega, 7, rfl, by omega, hU, rfl⟩
    · have hU : ((0 : Int), r) = U := hU
      subst hU
      conv => whnf
      refine ⟨[], rfl, ?_⟩
      conv => whnf
      refine ⟨⟨⟩, rfl, ?_⟩
      conv => whnf
      refine ⟨⟨⟩, rfl, ?_⟩
      conv => whnf
      refine ⟨⟨⟩, rfl, ?_⟩
      conv => whnf
      refine ⟨⟨⟩, rfl, ?_⟩
      conv => whnf
      exact ⟨⟨⟩, rfl, trivial⟩
    · omega
theorem words2_good (r : Rd) (l : List Nod) (st : List Frm) (hl : r.l.length ≤ 1000000) : Good Tryz.prog 209 [.ptr 0 0 0, .mp 4 0] [rdsO, r.ob, arrN l, arrF st, .box 0 [.md twosM]] [.int .i64 (Rd.wordsR twosL r).1] [rdsO, (Rd.wordsR twosL r).2.ob, arrN l, arrF st, .box 0 [.md twosM]] := by
  refine good_of hP Tryz.func209 (by kernel_rfl) (lv := [0, 1, 4, 5, 6, 7, 9, 26]) (js := []) ⟨rfl, rfl, rfl, rfl, rfl, rfl, _, rfl, ?_⟩
  generalize hU : Rd.wordsR twosL r = U
  conv => whnf
  refine loop_of hP [0, 1, 4, 5, 6, 7, 9, 26] [] [0, 1, 5] [0, 1, 2, 3, 4] [] (fun m s => ∃ j : Nat, m = 7 - j ∧ j ≤ 7 ∧ Rd.wordsR (twosL.filter fun p => decide (((2 + j : Nat) : Int) ≤ p.1)) r = U ∧
    s = ⟨[(0, .ptr 0 0 0), (1, .mp 4 0), (5, .int .i64 ((2 + j : Nat) : Int))], [(0, rdsO), (1, r.ob), (2, arrN l), (3, arrF st), (4, .box 0 [.md twosM])]⟩) 7 ?_ ?_
  · conv => whnf
    exact ⟨0, rfl, by omega, hU, rfl⟩
  · rintro m s ⟨j, rfl, hj, hU, rfl⟩
    rcases j with _ | _ | _ | _ | _ | _ | _ | _ | j
    · conv => whnf
      exact ⟨6, by omega, 1, rfl, by omega, hU, rfl⟩
    · have hU : (if r.see 1 [97, 110, 100] then ((3 : Int), r.step) else Rd.wordsR (twosL.filter fun p => decide (((2 + 2 : Nat) : Int) ≤ p.1)) r) = U := hU
      conv => whnf
      refine callN [(1, 0)] (rword_good r [97, 110, 100] hl) ?_ 
      conv => whnf
      refine ⟨⟨⟩, rfl, ?_⟩
      rw [word_eq]
      cases hs : r.see 1 [97, 110, 100] with
      | true =>
        rw [hs, if_pos rfl] at hU
        subst hU
        conv => whnf
        refine ⟨[], rfl, ?_⟩
        conv => whnf
        refine ⟨⟨⟩, rfl, ?_⟩
        conv => whnf
        refine ⟨⟨⟩, rfl, ?_⟩
        conv => whnf
        refine ⟨⟨⟩, rfl, ?_⟩
        conv => whnf
        refine ⟨⟨⟩, rfl, ?_⟩
        conv => whnf
        exact ⟨⟨⟩, rfl, trivial⟩
      | false =>
        rw [hs, if_neg (by simp)] at hU
        conv => whnf
        exact ⟨5, by omega, 2, rfl, by omega, hU, rfl⟩
    · have hU : (if r.see 1 [111, 114] then ((4 : Int), r.step) else Rd.wordsR (twosL.filter fun p => decide (((2 + 3 : Nat) : Int) ≤ p.1)) r) = U := hU
      conv => whnf
      refine callN [(1, 0)] (rword_good r [111, 114] hl) ?_ 
      conv => whnf
      refine ⟨⟨⟩, rfl, ?_⟩
      rw [word_eq]
      cases hs : r.see 1 [111, 114] with
      | true =>
        rw [hs, if_pos rfl] at hU
        subst hU
        conv => whnf
        refine ⟨[], rfl, ?_⟩
        conv => whnf
        refine ⟨⟨⟩, rfl, ?_⟩
        conv => whnf
        refine ⟨⟨⟩, rfl, ?_⟩
        conv => whnf
        refine ⟨⟨⟩, rfl, ?_⟩
        conv => whnf
        refine ⟨⟨⟩, rfl, ?_⟩
        conv => whnf
        exact ⟨⟨⟩, rfl, trivial⟩
      | false =>
        rw [hs, if_neg (by simp)] at hU
        conv => whnf
        exact ⟨4, by omega, 3, rfl, by omega, hU, rfl⟩
    · conv => whnf
      exact ⟨3, by omega, 4, rfl, by omega, hU, rfl⟩
    · conv => whnf
      exact ⟨2, by omega, 5, rfl, by omega, hU, rfl⟩
    · conv => whnf
      exact ⟨1, by omega, 6, rfl, by omega, hU, rfl⟩
    · have hU : (if r.see 1 [115, 105, 110, 99, 101] then ((8 : Int), r.step) else Rd.wordsR (twosL.filter fun p => decide (((2 + 7 : Nat) : Int) ≤ p.1)) r) = U := hU
      conv => whnf
      refine callN [(1, 0)] (rword_good r [115, 105, 110, 99, 101] hl) ?_ 
      conv => whnf
      refine ⟨⟨⟩, rfl, ?_⟩
      rw [word_eq]
      cases hs : r.see 1 [115, 105, 110, 99, 101] with
      | true =>
        rw [hs, if_pos rfl] at hU
        subst hU
        conv => whnf
        refine ⟨[], rfl, ?_⟩
        conv => whnf
        refine ⟨⟨⟩, rfl, ?_⟩
        conv => whnf
        refine ⟨⟨⟩, rfl, ?_⟩
        conv => whnf
        refine ⟨⟨⟩, rfl, ?_⟩
        conv => whnf
        refine ⟨⟨⟩, rfl, ?_⟩
        conv => whnf
        exact ⟨⟨⟩, rfl, trivial⟩
      | false =>
        rw [hs, if_neg (by simp)] at hU
        conv => whnf
        exact ⟨0, by omega, 7, rfl, by omega, hU, rfl⟩
    · have hU : ((0 : Int), r) = U := hU
      subst hU
      conv => whnf
      refine ⟨[], rfl, ?_⟩
      conv => whnf
      refine ⟨⟨⟩, rfl, ?_⟩
      conv => whnf
      refine ⟨⟨⟩, rfl, ?_⟩
      conv => whnf
      refine ⟨⟨⟩, rfl, ?_⟩
      conv => whnf
      refine ⟨⟨⟩, rfl, ?_⟩
      conv => whnf
      exact ⟨⟨⟩, rfl, trivial⟩
    · omega
end Go.PV
namespace Go.PV
open Go
namespace Rd
theorem beg_st : ∀ (f : Nat) (r : Rd) (st : List Frm), (beg f r st).1.length + r.i = st.length + (beg f r st).2.i
  | 0, r, st => rfl
  | f + 1, r, st => by
    unfold beg
    split
    · split
      · have h := beg_st f r.step ((0, 0) :: st)
        have e : r.step.i = r.i + 1 := rfl
        rw [List.length_cons, e] at h; omega
      · rfl
    · rename_i hw
      obtain ⟨e, _⟩ := wordsR_ne hw
      have h := beg_st f (wordsR onesL r).2 (((wordsR onesL r).1, 0) :: st)
      have e2 : (wordsR onesL r).2.i = r.i + 1 := by rw [e]; rfl
      rw [List.length_cons, e2] at h; omega
theorem clo_len : ∀ (st : List Frm) (l : List Nod) (r : Rd), (clo st l r).2.2.1.length + (clo st l r).2.1.length = l.length + st.length
  | [], l, r => rfl
  | (k, a) :: st, l, r => by
    unfold clo
    split
    · split
      · have := clo_len st (l ++ [⟨k, zeroA, (l.length : Int) - 1, 0⟩]) r
        rw [this]; simp; omega
      · split
        · have := clo_len st (l ++ [⟨k, zeroA, a, (l.length : Int) - 1⟩]) (r.want 5 [41])
          rw [this]; simp; omega
        · split
          · rfl
          · rfl
    · rfl
theorem clo_false : ∀ (st : List Frm) (l : List Nod) (r : Rd), (clo st l r).1 = false → (clo st l r).2.2.2.isOpen = true
  | [], l, r, h => by cases h
  | (k, a) :: st, l, r, h => by
    unfold clo at *
    split
    · rename_i ho
      rw [if_pos ho] at h
      split
      · rename_i h1
        rw [if_pos h1] at h
        exact clo_false st _ r h
      · rename_i h1
        rw [if_neg h1] at h
        split
        · rename_i h2
          rw [if_pos h2] at h
          exact clo_false st _ _ h
        · rename_i h2
          rw [if_neg h2] at h
          split
          · rename_i h3
            rw [if_pos h3] at h
            cases h
          · rename_i h3
            obtain ⟨e, _⟩ := wordsR_ne h3
            dsimp only
            rw [e]; exact ho
    · rename_i ho
      rw [if_neg ho] at h
      cases h
theorem wordsR_shut {r : Rd} (h : r.isOpen = false) : ∀ L : List (Int × Bs), wordsR L r = (0, r)
  | [] => rfl
  | (k, s) :: L => by
    unfold wordsR
    rw [see_shut h, if_neg (by simp)]
    exact wordsR_shut h L
theorem clo_b : ∀ (st : List Frm) (l : List Nod) (r : Rd), (∀ o ∈ l, nodB o) → ∀ o ∈ (clo st l r).2.2.1, nodB o
  | [], l, r, h => h
  | (k, a) :: st, l, r, h => by
    have hz : ∀ (x y : Int), ∀ o ∈ l ++ [⟨k, zeroA, x, y⟩], nodB o := fun x y o ho => by
      rcases List.mem_append.1 ho with ho | ho
      · exact h o ho
      · simp at ho; subst ho; exact ⟨Nat.zero_le _, Nat.zero_le _, fun t ht => by cases ht⟩
    unfold clo
    split
    · split
      · exact clo_b st _ r (hz _ _)
      · split
        · exact clo_b st _ _ (hz _ _)
        · split
          · exact h
          · exact h
    · exact h
theorem forG_b : ∀ (f : Nat) (q : Rd) (t : List Frm) (n : List Nod), Iv q → n.length + t.length ≤ q.i → (∀ o ∈ n, nodB o) → (forG f q t n).2.1.length ≤ q.l.length + 1 ∧ ∀ o ∈ (forG f q t n).2.1, nodB o
  | 0, q, t, n, hv, hs, hn => ⟨by have := hv.le; show n.length ≤ _; omega, hn⟩
  | f + 1, q, t, n, hv, hs, hn => by
    have hle := hv.le
    unfold forG
    split
    · rename_i ho
      have hvb := Iv.beg (q.l.length + 1) t hv
      have hbs := beg_st (q.l.length + 1) q t
      have hbl := beg_l (q.l.length + 1) q t
      dsimp only
      generalize beg (q.l.length + 1) q t = b at *
      have hva := hvb.atom
      have hal := atom_l b.2
      have hao := @atom_open b.2
      have has := atom_s b.2
      have hble := hvb.le
      generalize b.2.atom = x at *
      have hxle := hva.le
      have hn2 : ∀ o ∈ n ++ [⟨1, x.1, 0, 0⟩], nodB o := fun o ho => by
        rcases List.mem_append.1 ho with ho | ho
        · exact hn o ho
        · simp at ho; subst ho; exact has
      have hcl := clo_len b.1 (n ++ [⟨1, x.1, 0, 0⟩]) x.2
      have hco := @clo_open b.1 (n ++ [⟨1, x.1, 0, 0⟩]) x.2
      have hcf := clo_false b.1 (n ++ [⟨1, x.1, 0, 0⟩]) x.2
      have hcll := clo_l b.1 (n ++ [⟨1, x.1, 0, 0⟩]) x.2
      have hcv := Iv.clo b.1 (n ++ [⟨1, x.1, 0, 0⟩]) hva
      have hcb := clo_b b.1 (n ++ [⟨1, x.1, 0, 0⟩]) x.2 hn2
      rw [List.length_append, List.length_cons, List.length_nil] at hcl
      generalize clo b.1 (n ++ [⟨1, x.1, 0, 0⟩]) x.2 = c at *
      rw [hbl.1] at hble hal
      rw [hal.1] at hxle hcll
      cases hc : c.1 with
      | true =>
        rw [if_pos rfl]
        exact ⟨by dsimp only; omega, hcb⟩
      | false =>
        rw [if_neg (by simp)]
        have hup := (hao (hco (hcf hc))).2.2.1
        have := forG_b f c.2.2.2 c.2.1 c.2.2.1 hcv (by omega) hcb
        rw [hcll.1] at this
        exact this
    · exact ⟨by show n.length ≤ _; omega, hn⟩
theorem formula_b {r : Rd} (hv : Iv r) : r.formula.2.1.length ≤ r.l.length + 1 ∧ ∀ o ∈ r.formula.2.1, nodB o := forG_b _ _ _ _ hv (Nat.zero_le _) (fun o ho => by cases ho)
end Rd
end Go.PV
namespace Go.PV
open Go Go.Proofs
set_option maxRecDepth 100000
theorem nodV_snoc (l : List Nod) (x : Nod) : nodV (l ++ [x]) = nodV l ++ [x.c] := List.map_append
theorem frmV_cons (f : Frm) (st : List Frm) : frmV (f :: st) = frmV st ++ [[.int .i64 f.1, .int .i64 f.2]] := by
  show ((f :: st).reverse.map fun f => [V.int .i64 f.1, .int .i64 f.2]) = _
  rw [List.reverse_cons, List.map_append]; rfl
theorem frmV_len (st : List Frm) : (frmV st).length = st.length := by rw [List.length_map, List.length_reverse]
theorem arrN_snoc (l : List Nod) (x : Nod) : arrN (l ++ [x]) = .arr 0 false 5 (nodV l ++ [x.c]) := congrArg (Ob.arr 0 false 5) (nodV_snoc l x)
theorem arrF_cons (f : Frm) (st : List Frm) : arrF (f :: st) = .arr 0 false 2 (frmV st ++ [[.int .i64 f.1, .int .i64 f.2]]) := congrArg (Ob.arr 0 false 2) (frmV_cons f st)
theorem put_good (r : Rd) (l : List Nod) (st : List Frm) (x : Nod) (hl : l.length ≤ 10000000) : Good Tryz.prog 151 [.ptr 0 0 0, .agg x.c] [rdsO, r.ob, arrN l, arrF st] [] [rdsO, r.ob, arrN (l ++ [x]), arrF st] := by
  have hll : (nodV l).length = l.length := List.length_map _
  refine good_of hP Tryz.func151 (by kernel_rfl) (lv := [0, 1, 3]) (js := []) ⟨rfl, rfl, rfl, rfl, rfl, rfl, _, rfl, ?_⟩
  conv => whnf
  refine ⟨⟨⟩, by dsimp only; rw [hll]; simp only [List.length_cons, List.length_nil]; omega, ?_⟩
  conv => whnf
  refine ⟨by kernel_rfl, ?_⟩
  conv => whnf
  rw [arrN_snoc]
  refine ⟨[], rfl, ?_⟩
  conv => whnf
  refine ⟨⟨⟩, rfl, ?_⟩
  conv => whnf
  refine ⟨⟨⟩, rfl, ?_⟩
  conv => whnf
  refine ⟨⟨⟩, rfl, ?_⟩
  conv => whnf
  exact ⟨⟨⟩, rfl, trivial⟩
theorem begins_good (r : Rd) (l : List Nod) (st : List Frm) (hl : r.l.length ≤ 1000000) (hst : st.length ≤ r.i) : Good Tryz.prog 150 [.ptr 0 0 0] [rdsO, r.ob, arrN l, arrF st] [] [rdsO, (Rd.beg (r.l.length + 1) r st).2.ob, arrN l, arrF (Rd.beg (r.l.length + 1) r st).1] := by
  refine good_of hP Tryz.func150 (by kernel_rfl) (lv := [0, 2, 15]) (js := []) ⟨rfl, rfl, rfl, rfl, rfl, rfl, _, rfl, ?_⟩
  generalize hU : Rd.beg (r.l.length + 1) r st = U
  conv => whnf
  refine loop_of hP [0, 2, 15] [] [0] [0, 1, 2, 3] [] (fun m s => ∃ (f : Nat) (q : Rd) (t : List Frm), f = m ∧ q.l = r.l ∧ (f = 0 → r.l.length ≤ q.i) ∧ r.l.length < f + q.i + 1 ∧ t.length ≤ q.i ∧ Rd.beg f q t = U ∧
    s = ⟨[(0, .ptr 0 0 0)], [(0, rdsO), (1, q.ob), (2, arrN l), (3, arrF t)]⟩) (r.l.length + 1) ?_ ?_
  · conv => whnf
    exact ⟨r.l.length + 1, r, st, rfl, rfl, (fun h => by cases h), by omega, hst, hU, rfl⟩
  · rintro m s ⟨f, q, t, rfl, hq, hf0, hf, ht, hU, rfl⟩
    have hql : q.l.length ≤ 1000000 := by rw [hq]; exact hl
    conv => whnf
    refine call0 (ones_good) ?_
    conv => whnf
    refine callN [(0, 0), (1, 0), (2, 0), (3, 0), (1280, 0)] (words1_good q l t hql) ?_
    conv => whnf
    refine ⟨⟨⟩, rfl, ?_⟩
    conv => whnf
    refine ⟨⟨⟩, rfl, ?_⟩
    conv => whnf
    refine ⟨⟨⟩, rfl, ?_⟩
    conv => whnf
    refine ⟨⟨⟩, rfl, ?_⟩
    conv => whnf
    refine ⟨⟨⟩, rfl, ?_⟩
    have h0 := @Rd.wordsR_0 onesL q Rd.ones_ne
    have hne := @Rd.wordsR_ne onesL q
    generalize hw : Rd.wordsR onesL q = w at *
    obtain ⟨k, q2⟩ := w
    dsimp only at h0 hne
    conv => whnf
    refine branch_of (fun hk => ?_) (fun hk => ?_)
    · have hk : k = 0 := of_decide_eq_true hk
      subst hk
      have := h0 rfl
      subst this
      conv => whnf
      refine callN [(1, 0)] (rsign_good' q2 [40] hql) ?_ 
      conv => whnf
      refine ⟨⟨⟩, rfl, ?_⟩
      rw [word_eq]
      cases hs : q2.see 5 [40] with
      | false =>
        have hU2 : Rd.beg f q2 t = (t, q2) := by
          cases f with
          | zero => rfl
          | succ f => rw [Rd.beg, hw, if_pos rfl, hs, if_neg (by simp)]
        rw [hU2] at hU
        subst hU
        conv => whnf
        refine ⟨[], rfl, ?_⟩
        conv => whnf
        refine ⟨⟨⟩, rfl, ?_⟩
        conv => whnf
        refine ⟨⟨⟩, rfl, ?_⟩
        conv => whnf
        refine ⟨⟨⟩, rfl, ?_⟩
        conv => whnf
        exact ⟨⟨⟩, rfl, trivial⟩
      | true =>
        have hlt := cur_lt' hs
        obtain ⟨f, rfl⟩ : ∃ g, f = g + 1 := ⟨f - 1, by have := fun e => hf0 e; rw [hq] at hlt; omega⟩
        rw [Rd.beg, hw, if_pos rfl, hs, if_pos rfl] at hU
        have hlt2 : q2.i < r.l.length := by rw [hq] at hlt; exact hlt
        conv => whnf
        refine ⟨⟨⟩, by dsimp only; rw [frmV_len]; simp only [List.length_cons, List.length_nil]; omega, ?_⟩
        conv => whnf
        refine ⟨f, by omega, f, q2.step, (0, 0) :: t, rfl, hq, (fun _ => by show r.l.length ≤ q2.i + 1; omega), by show r.l.length < f + (q2.i + 1) + 1; omega, by show _ + 1 ≤ q2.i + 1; omega, hU, ?_⟩
        rw [arrF_cons]
        rfl
    · have hk2 : ¬ k = 0 := of_decide_eq_false hk
      obtain ⟨e, ho, hlt, _⟩ := hne hk2
      subst e
      have hlt2 : q.i < r.l.length := by rw [hq] at hlt; exact hlt
      obtain ⟨f, rfl⟩ : ∃ g, f = g + 1 := ⟨f - 1, by have := fun e => hf0 e; omega⟩
      rw [Rd.beg, hw, if_neg hk2] at hU
      conv => whnf
      refine ⟨⟨⟩, by dsimp only; rw [frmV_len]; simp only [List.length_cons, List.length_nil]; omega, ?_⟩
      conv => whnf
      refine ⟨f, by omega, f, q.step, (k, 0) :: t, rfl, hq, (fun _ => by show r.l.length ≤ q.i + 1; omega), by show r.l.length < f + (q.i + 1) + 1; omega, by show _ + 1 ≤ q.i + 1; omega, hU, ?_⟩
      rw [arrF_cons]
theorem closes_good (r : Rd) (l : List Nod) (st : List Frm) (hl : r.l.length ≤ 1000000) (hb : l.length + st.length ≤ 3000000) : Good Tryz.prog 152 [.ptr 0 0 0] [rdsO, r.ob, arrN l, arrF st] [.bool (Rd.clo st l r).1] [rdsO, (Rd.clo st l r).2.2.2.ob, arrN (Rd.clo st l r).2.2.1, arrF (Rd.clo st l r).2.1] := by
  refine good_of hP Tryz.func152 (by kernel_rfl) (lv := [0, 2, 3, 4, 5, 6, 19, 41, 46, 62, 79]) (js := []) ⟨rfl, rfl, rfl, rfl, rfl, rfl, _, rfl, ?_⟩
  generalize hU : Rd.clo st l r = U
  conv => whnf
  refine loop_of hP [0, 2, 3, 4, 5, 6, 19, 41, 46, 62, 79] [] [0] [0, 1, 2, 3] [] (fun m s => ∃ (t : List Frm) (n : List Nod) (q : Rd), m = t.length ∧ q.l = r.l ∧ n.length + t.length = l.length + st.length ∧ Rd.clo t n q = U ∧
    s = ⟨[(0, .ptr 0 0 0)], [(0, rdsO), (1, q.ob), (2, arrN n), (3, arrF t)]⟩) st.length ?_ ?_
  · conv => whnf
    exact ⟨st, l, r, rfl, rfl, rfl, hU, rfl⟩
  · rintro m s ⟨t, n, q, rfl, hq, hlen, hU, rfl⟩
    have hql : q.l.length ≤ 1000000 := by rw [hq]; exact hl
    cases t with
    | nil =>
      rw [Rd.clo] at hU
      subst hU
      conv => whnf
      refine ⟨[], rfl, ?_⟩
      conv => whnf
      refine ⟨⟨⟩, rfl, ?_⟩
      conv => whnf
      refine ⟨⟨⟩, rfl, ?_⟩
      conv => whnf
      refine ⟨⟨⟩, rfl, ?_⟩
      conv => whnf
      exact ⟨⟨⟩, rfl, trivial⟩
    | cons x t =>
      obtain ⟨k, a⟩ := x
      have h0 : decide (0 < ((frmV ((k, a) :: t)).length : Int)) = true := by rw [decide_eq_true_iff, frmV_len, List.length_cons]; omega
      have hw : IntKind.i64.wrap (((frmV ((k, a) :: t)).length : Int) - 1) = (t.length : Nat) := by
        rw [List.length_cons] at hlen
        rw [frmV_len, List.length_cons, wr (by omega) (by omega)]; omega
      have hnl : (nodV n).length = n.length := List.length_map _
      rw [List.length_cons] at hlen
      have hw2 : IntKind.i64.wrap (((nodV n).length : Int) - 1) = (n.length : Int) - 1 := by rw [hnl, wr (by omega) (by omega)]
      have hrow : (frmV ((k, a) :: t))[((t.length : Nat) : Int).toNat]? = some [.int .i64 k, .int .i64 a] := by simp [frmV]
      conv => whnf
      rw [h0]
      conv => whnf
      refine callN [(1, 0)] (open_good q) ?_ 
      conv => whnf
      refine ⟨⟨⟩, rfl, ?_⟩
      rw [Rd.clo] at hU
      cases ho : q.isOpen with
      | false =>
        rw [ho, if_neg (by simp)] at hU
        subst hU
        conv => whnf
        refine ⟨[], rfl, ?_⟩
        conv => whnf
        refine ⟨⟨⟩, rfl, ?_⟩
        conv => whnf
        refine ⟨⟨⟩, rfl, ?_⟩
        conv => whnf
        refine ⟨⟨⟩, rfl, ?_⟩
        conv => whnf
        exact ⟨⟨⟩, rfl, trivial⟩
      | true =>
        rw [ho, if_pos rfl] at hU
        conv => whnf
        refine ⟨by kernel_rfl, ?_⟩
        conv => whnf
        rw [hw]
        refine ⟨⟨⟩, by rw [frmV_len, List.length_cons]; omega, ?_⟩
        conv => whnf
        refine ⟨_, hrow, ?_⟩
        conv => whnf
        refine call0 (arms_good k) ?_
        rcases arms_cases k with ⟨ha, hkk⟩ | ⟨ha, hkk⟩ | ⟨ha, hkk⟩ | ⟨ha, hkk⟩
        · have hU2 : (if (Rd.wordsR twosL q).1 = 0 then (true, (k, a) :: t, n, q.fail) else (false, ((Rd.wordsR twosL q).1, (n.length : Int) - 1) :: t, n, (Rd.wordsR twosL q).2)) = U := by rw [← hU, if_neg (show ¬ armsN k = 1 by omega), if_neg (show ¬ armsN k = 2 by omega)]
          rw [ha]
          conv => whnf
          refine call0 (twos_good) ?_
          conv => whnf
          refine callN [(0, 0), (1, 0), (2, 0), (3, 0), (3776, 0)] (words2_good q n ((k, a) :: t) hql) ?_
          conv => whnf
          refine ⟨⟨⟩, rfl, ?_⟩
          conv => whnf
          refine ⟨⟨⟩, rfl, ?_⟩
          conv => whnf
          refine ⟨⟨⟩, rfl, ?_⟩
          conv => whnf
          refine ⟨⟨⟩, rfl, ?_⟩
          conv => whnf
          refine ⟨⟨⟩, rfl, ?_⟩
          have hne := @Rd.wordsR_ne twosL q
          have hz := @Rd.wordsR_0 twosL q Rd.twos_ne
          generalize Rd.wordsR twosL q = w at *
          obtain ⟨wk, q2⟩ := w
          dsimp only at hne hz hU2
          conv => whnf
          refine branch_of (fun hk => ?_) (fun hk => ?_)
          · have hk2 : wk = 0 := of_decide_eq_true hk
            have := hz hk2
            subst this
            rw [if_pos hk2] at hU2
            subst hU2
            conv => whnf
            refine ⟨[], rfl, ?_⟩
            conv => whnf
            refine ⟨⟨⟩, rfl, ?_⟩
            conv => whnf
            refine ⟨⟨⟩, rfl, ?_⟩
            conv => whnf
            refine ⟨⟨⟩, rfl, ?_⟩
            conv => whnf
            exact ⟨⟨⟩, rfl, trivial⟩
          · have hk2 : ¬ wk = 0 := of_decide_eq_false hk
            rw [if_neg hk2] at hU2
            subst hU2
            conv => whnf
            rw [hw2]
            refine ⟨⟨⟩, by dsimp only; rw [frmV_len, List.length_cons]; omega, ?_⟩
            conv => whnf
            refine ⟨_, hrow, ?_⟩
            conv => whnf
            have hset : (frmV ((k, a) :: t)).set t.length [.int .i64 wk, .int .i64 ((n.length : Int) - 1)] = frmV ((wk, (n.length : Int) - 1) :: t) := by
              rw [frmV_cons, frmV_cons, List.set_append_right _ _ (by rw [frmV_len]; exact Nat.le_refl _), frmV_len, Nat.sub_self]; rfl
            have hset2 : (frmV ((k, a) :: t)).set ((t.length : Nat) : Int).toNat [.int .i64 (wk, q2).1, .int .i64 ((n.length : Int) - 1)] = frmV ((wk, (n.length : Int) - 1) :: t) := hset
            rw [hset2]
            refine ⟨[], rfl, ?_⟩
            conv => whnf
            refine ⟨⟨⟩, rfl, ?_⟩
            conv => whnf
            refine ⟨⟨⟩, rfl, ?_⟩
            conv => whnf
            refine ⟨⟨⟩, rfl, ?_⟩
            conv => whnf
            exact ⟨⟨⟩, rfl, trivial⟩
        · rw [if_pos ha] at hU
          rw [ha]
          conv => whnf
          rw [hw2]
          refine callN [(0, 0), (1, 0), (2, 0), (3, 0)] (put_good q n ((k, a) :: t) ⟨k, zeroA, (n.length : Int) - 1, 0⟩ (by omega)) ?_
          conv => whnf
          refine ⟨⟨⟩, rfl, ?_⟩
          conv => whnf
          refine ⟨⟨⟩, rfl, ?_⟩
          conv => whnf
          refine ⟨⟨⟩, rfl, ?_⟩
          conv => whnf
          refine ⟨⟨⟩, rfl, ?_⟩
          conv => whnf
          refine ⟨true, trivial, ?_⟩
          conv => whnf
          refine ⟨⟨⟩, by dsimp only; rw [frmV_len, List.length_cons]; omega, ?_⟩
          conv => whnf
          refine ⟨t.length, by simp, t, n ++ [⟨k, zeroA, (n.length : Int) - 1, 0⟩], q, rfl, hq, by rw [List.length_append, List.length_cons, List.length_nil]; omega, hU, ?_⟩
          have htk : (frmV ((k, a) :: t)).take ((t.length : Nat) : Int).toNat = frmV t := by rw [frmV_cons, Int.toNat_natCast, List.take_append_of_le_length (by rw [frmV_len]; exact Nat.le_refl _), List.take_of_length_le (by rw [frmV_len]; exact Nat.le_refl _)]
          rw [htk]
        · rw [if_neg (by omega), if_pos ha] at hU
          rw [ha]
          conv => whnf
          refine callN [(1, 0)] (want_good q [41] hql) ?_ 
          conv => whnf
          refine ⟨⟨⟩, rfl, ?_⟩
          have hwl := Rd.want_l q 5 [41]
          conv => whnf
          rw [hw2]
          refine callN [(0, 0), (1, 0), (2, 0), (3, 0)] (put_good (q.want 5 [41]) n ((k, a) :: t) ⟨k, zeroA, a, (n.length : Int) - 1⟩ (by omega)) ?_
          conv => whnf
          refine ⟨⟨⟩, rfl, ?_⟩
          conv => whnf
          refine ⟨⟨⟩, rfl, ?_⟩
          conv => whnf
          refine ⟨⟨⟩, rfl, ?_⟩
          conv => whnf
          refine ⟨⟨⟩, rfl, ?_⟩
          conv => whnf
          refine ⟨true, trivial, ?_⟩
          conv => whnf
          refine ⟨⟨⟩, by dsimp only; rw [frmV_len, List.length_cons]; omega, ?_⟩
          conv => whnf
          refine ⟨t.length, by simp, t, n ++ [⟨k, zeroA, a, (n.length : Int) - 1⟩], q.want 5 [41], rfl, hwl.1.trans hq, by rw [List.length_append, List.length_cons, List.length_nil]; omega, hU, ?_⟩
          have htk : (frmV ((k, a) :: t)).take ((t.length : Nat) : Int).toNat = frmV t := by rw [frmV_cons, Int.toNat_natCast, List.take_append_of_le_length (by rw [frmV_len]; exact Nat.le_refl _), List.take_of_length_le (by rw [frmV_len]; exact Nat.le_refl _)]
          rw [htk]
        · have hU2 : (if (Rd.wordsR twosL q).1 = 0 then (true, (k, a) :: t, n, q.fail) else (false, ((Rd.wordsR twosL q).1, (n.length : Int) - 1) :: t, n, (Rd.wordsR twosL q).2)) = U := by rw [← hU, if_neg (show ¬ armsN k = 1 by omega), if_neg (show ¬ armsN k = 2 by omega)]
          rw [ha]
          conv => whnf
          refine call0 (twos_good) ?_
          conv => whnf
          refine callN [(0, 0), (1, 0), (2, 0), (3, 0), (3776, 0)] (words2_good q n ((k, a) :: t) hql) ?_
          conv => whnf
          refine ⟨⟨⟩, rfl, ?_⟩
          conv => whnf
          refine ⟨⟨⟩, rfl, ?_⟩
          conv => whnf
          refine ⟨⟨⟩, rfl, ?_⟩
          conv => whnf
          refine ⟨⟨⟩, rfl, ?_⟩
          conv => whnf
          refine ⟨⟨⟩, rfl, ?_⟩
          have hne := @Rd.wordsR_ne twosL q
          have hz := @Rd.wordsR_0 twosL q Rd.twos_ne
          generalize Rd.wordsR twosL q = w at *
          obtain ⟨wk, q2⟩ := w
          dsimp only at hne hz hU2
          conv => whnf
          refine branch_of (fun hk => ?_) (fun hk => ?_)
          · have hk2 : wk = 0 := of_decide_eq_true hk
            have := hz hk2
            subst this
            rw [if_pos hk2] at hU2
            subst hU2
            conv => whnf
            refine ⟨[], rfl, ?_⟩
            conv => whnf
            refine ⟨⟨⟩, rfl, ?_⟩
            conv => whnf
            refine ⟨⟨⟩, rfl, ?_⟩
            conv => whnf
            refine ⟨⟨⟩, rfl, ?_⟩
            conv => whnf
            exact ⟨⟨⟩, rfl, trivial⟩
          · have hk2 : ¬ wk = 0 := of_decide_eq_false hk
            rw [if_neg hk2] at hU2
            subst hU2
            conv => whnf
            rw [hw2]
            refine ⟨⟨⟩, by dsimp only; rw [frmV_len, List.length_cons]; omega, ?_⟩
            conv => whnf
            refine ⟨_, hrow, ?_⟩
            conv => whnf
            have hset : (frmV ((k, a) :: t)).set t.length [.int .i64 wk, .int .i64 ((n.length : Int) - 1)] = frmV ((wk, (n.length : Int) - 1) :: t) := by
              rw [frmV_cons, frmV_cons, List.set_append_right _ _ (by rw [frmV_len]; exact Nat.le_refl _), frmV_len, Nat.sub_self]; rfl
            have hset2 : (frmV ((k, a) :: t)).set ((t.length : Nat) : Int).toNat [.int .i64 (wk, q2).1, .int .i64 ((n.length : Int) - 1)] = frmV ((wk, (n.length : Int) - 1) :: t) := hset
            rw [hset2]
            refine ⟨[], rfl, ?_⟩
            conv => whnf
            refine ⟨⟨⟩, rfl, ?_⟩
            conv => whnf
            refine ⟨⟨⟩, rfl, ?_⟩
            conv => whnf
            refine ⟨⟨⟩, rfl, ?_⟩
            conv => whnf
            exact ⟨⟨⟩, rfl, trivial⟩
end Go.PV
namespace Go.PV
open Go Go.Proofs
set_option maxRecDepth 100000
theorem formula_good (r : Rd) (hb : tokB r.l) (hv : Iv r) : Good Tryz.prog 90 [.ptr 0 0 0] [.box 0 [.ptr 1 0 0, .nil, .nil], r.ob] [.own 2 0] [rdsO, r.formula.2.2.ob, arrN r.formula.2.1, arrF r.formula.1] := by
  have hl := hb.1
  have hvle := hv.le
  refine good_of hP Tryz.func90 (by kernel_rfl) (lv := [0, 2, 3, 12]) (js := []) ⟨rfl, rfl, rfl, rfl, rfl, rfl, _, rfl, ?_⟩
  generalize hU : r.formula = U
  unfold Rd.formula at hU
  conv => whnf
  refine loop_of hP [0, 2, 3, 12] [] [0, 3] [0, 1, 100001, 100002] [.cell 0 1 5, .cell 0 2 2] (fun m s => ∃ (f : Nat) (q : Rd) (t : List Frm) (n : List Nod) (done : Bool), (if done then 0 else f + 1) = m ∧ q.l = r.l ∧ Iv q ∧ (done = false → Rd.forG f q t n = U ∧ n.length + t.length ≤ q.i ∧ r.l.length < f + q.i) ∧ (done = true → (t, n, q) = U) ∧
    s = ⟨[(0, .ptr 0 0 0), (3, .bool done)], [(0, .box 0 [.ptr 1 0 0, .own 100001 0, .own 100002 0]), (1, q.ob), (100001, arrN n), (100002, arrF t)]⟩) (r.l.length + 2) ?_ ?_
  · conv => whnf
    exact ⟨r.l.length + 1, r, [], [], false, rfl, rfl, hv, (fun _ => ⟨hU, Nat.zero_le _, by omega⟩), (fun h => by cases h), rfl⟩
  · rintro m s ⟨f, q, t, n, done, rfl, hq, hvq, h1, h2, rfl⟩
    have hvle := hvq.le
    rw [hq] at hvle
    have hbq : tokB q.l := by rw [hq]; exact hb
    cases done with
    | true =>
      have hU := h2 rfl
      subst hU
      conv => whnf
      refine ⟨[(100001, 0), (100002, 0)], rfl, ?_⟩
      conv => whnf
      refine ⟨⟨⟩, rfl, ?_⟩
      conv => whnf
      refine ⟨⟨⟩, rfl, ?_⟩
      conv => whnf
      refine ⟨⟨⟩, rfl, ?_⟩
      conv => whnf
      exact ⟨⟨⟩, rfl, trivial⟩
    | false =>
      obtain ⟨hU, hs, hf⟩ := h1 rfl
      conv => whnf
      refine callN [(1, 0)] (open_good q) ?_ 
      conv => whnf
      refine ⟨⟨⟩, rfl, ?_⟩
      cases ho : q.isOpen with
      | false =>
        have hU2 : Rd.forG f q t n = (t, n, q) := by
          cases f with
          | zero => rfl
          | succ f => rw [Rd.forG, if_neg (by rw [ho]; simp)]
        rw [hU2] at hU
        subst hU
        conv => whnf
        refine ⟨[(100001, 0), (100002, 0)], rfl, ?_⟩
        conv => whnf
        refine ⟨⟨⟩, rfl, ?_⟩
        conv => whnf
        refine ⟨⟨⟩, rfl, ?_⟩
        conv => whnf
        refine ⟨⟨⟩, rfl, ?_⟩
        conv => whnf
        exact ⟨⟨⟩, rfl, trivial⟩
      | true =>
        obtain ⟨f, rfl⟩ : ∃ g, f = g + 1 := ⟨f - 1, by omega⟩
        rw [Rd.forG, if_pos ho] at hU
        dsimp only at hU
        have hvb := Iv.beg (q.l.length + 1) t hvq
        have hbs := Rd.beg_st (q.l.length + 1) q t
        have hbl := Rd.beg_l (q.l.length + 1) q t
        conv => whnf
        refine callN [(0, 0), (1, 0), (100001, 0), (100002, 0)] (begins_good q n t hbq.1 (by omega)) ?_
        conv => whnf
        refine ⟨⟨⟩, rfl, ?_⟩
        conv => whnf
        refine ⟨⟨⟩, rfl, ?_⟩
        conv => whnf
        refine ⟨⟨⟩, rfl, ?_⟩
        conv => whnf
        refine ⟨⟨⟩, rfl, ?_⟩
        generalize Rd.beg (q.l.length + 1) q t = b at *
        obtain ⟨t2, q2⟩ := b
        obtain ⟨hbl1, hbl2⟩ := hbl
        dsimp only at hvb hbs hbl1 hbl2 hU
        have hb2 : tokB q2.l := by rw [hbl1]; exact hbq
        have hva := hvb.atom
        have hal := Rd.atom_l q2
        have hao := @Rd.atom_open q2
        have hle2 := hvb.le
        rw [hbl1, hq] at hle2
        conv => whnf
        refine callN [(1, 0)] (ratom_good q2 hb2) ?_ 
        conv => whnf
        refine ⟨⟨⟩, rfl, ?_⟩
        generalize q2.atom = x at *
        obtain ⟨a, q3⟩ := x
        obtain ⟨hal1, hal2⟩ := hal
        dsimp only at hva hal1 hal2 hao hU
        have hle3 := hva.le
        rw [hal1, hbl1, hq] at hle3
        conv => whnf
        refine callN [(0, 0), (1, 0), (100001, 1), (100002, 1)] (put_good q3 n t2 ⟨1, a, 0, 0⟩ (by omega)) ?_
        conv => whnf
        refine ⟨⟨⟩, rfl, ?_⟩
        conv => whnf
        refine ⟨⟨⟩, rfl, ?_⟩
        conv => whnf
        refine ⟨⟨⟩, rfl, ?_⟩
        conv => whnf
        refine ⟨⟨⟩, rfl, ?_⟩
        have hcl := Rd.clo_len t2 (n ++ [⟨1, a, 0, 0⟩]) q3
        have hco := @Rd.clo_open t2 (n ++ [⟨1, a, 0, 0⟩]) q3
        have hcf := Rd.clo_false t2 (n ++ [⟨1, a, 0, 0⟩]) q3
        have hcll := Rd.clo_l t2 (n ++ [⟨1, a, 0, 0⟩]) q3
        have hcv := Iv.clo t2 (n ++ [⟨1, a, 0, 0⟩]) hva
        rw [List.length_append, List.length_cons, List.length_nil] at hcl
        conv => whnf
        refine callN [(0, 0), (1, 0), (100001, 2), (100002, 2)] (closes_good q3 (n ++ [⟨1, a, 0, 0⟩]) t2 (by rw [hal1]; exact hb2.1) (by rw [List.length_append, List.length_cons, List.length_nil]; omega)) ?_
        conv => whnf
        refine ⟨⟨⟩, rfl, ?_⟩
        conv => whnf
        refine ⟨⟨⟩, rfl, ?_⟩
        conv => whnf
        refine ⟨⟨⟩, rfl, ?_⟩
        conv => whnf
        refine ⟨⟨⟩, rfl, ?_⟩
        generalize Rd.clo t2 (n ++ [⟨1, a, 0, 0⟩]) q3 = c at *
        obtain ⟨cd, ct, cn, cq⟩ := c
        obtain ⟨hcll1, hcll2⟩ := hcll
        dsimp only at hcl hco hcf hcll1 hcll2 hcv hU
        have hcq : cq.l = r.l := by rw [hcll1, hal1, hbl1, hq]
        cases cd with
        | true =>
          rw [if_pos rfl] at hU
          conv => whnf
          exact ⟨0, by simp, f, cq, ct, cn, true, rfl, hcq, hcv, (fun h => by cases h), (fun _ => hU), rfl⟩
        | false =>
          rw [if_neg (by simp)] at hU
          have hup := (hao (hco (hcf rfl))).2.2.1
          conv => whnf
          exact ⟨f + 1, by simp, f, cq, ct, cn, false, rfl, hcq, hcv, (fun _ => ⟨hU, by omega, by omega⟩), (fun h => by cases h), rfl⟩
theorem fright_good (p : Pat) (hn : p.n.length ≤ 1000000) (ht : atmB p.t) (hl : p.l.length ≤ 1000000) (hb : ∀ o ∈ p.l, nodB o) : Good Tryz.prog 87 [.agg p.v] [] [.bool (patOk p)] [] := by
  obtain ⟨n, t, l⟩ := p
  refine good_of hP Tryz.func87 (by kernel_rfl) (lv := [0, 1, 2]) (js := []) ⟨rfl, rfl, rfl, rfl, rfl, rfl, _, rfl, ?_⟩
  unfold patOk
  dsimp only at *
  conv => whnf
  refine call0 (fname_good n hn) ?_
  cases nameS n with
  | false =>
    rw [Bool.false_and]
    conv => whnf
    exact fin0 rfl trivial
  | true =>
  rw [Bool.true_and]
  conv => whnf
  refine call0 (mcheck_good t ht) ?_
  cases atomOk t with
  | false =>
    rw [Bool.false_and]
    conv => whnf
    exact fin0 rfl trivial
  | true =>
  rw [Bool.true_and]
  conv => whnf
  refine call0 (fcheck_good l hl hb) ?_
  cases fmlOk l with
  | false =>
    conv => whnf
    exact fin0 rfl trivial
  | true =>
    conv => whnf
    exact fin0 rfl trivial
theorem ftext_good (l : List Nod) (hl : l.length ≤ 1000000) (hb : ∀ o ∈ l, nodB o) : Good Tryz.prog 30 [.sl 5 (nodV l)] [] [.str (fmlX l), .int .i64 (fmlE l)] [] := by
  refine good_of hP Tryz.func30 (by kernel_rfl) (lv := [0, 2, 3, 4, 8]) (js := []) ⟨rfl, rfl, rfl, rfl, rfl, rfl, _, rfl, ?_⟩
  unfold fmlX fmlE
  conv => whnf
  refine call0 (fcheck_good l hl hb) ?_
  cases hk : fmlOk l with
  | false =>
    rw [if_neg (by simp), if_neg (by simp)]
    conv => whnf
    exact fin0 rfl trivial
  | true =>
    have := fmlT_len hk
    rw [if_pos rfl]
    conv => whnf
    refine call0 (ftx_good l hl hb hk) ?_
    conv => whnf
    refine call0 (limited_good (fmlT l) (by omega)) ?_
    generalize fmlT l = s at *
    by_cases h : 20000 < s.length
    · rw [if_pos h, if_pos h, if_neg (by simp)]
      conv => whnf
      exact fin0 rfl trivial
    · rw [if_neg h, if_neg h, if_pos rfl]
      conv => whnf
      exact fin0 rfl trivial
theorem fpattern_good (p : Pat) (hn : p.n.length ≤ 1000000) (ht : atmB p.t) (hl : p.l.length ≤ 1000000) (hb : ∀ o ∈ p.l, nodB o) : Good Tryz.prog 37 [.agg p.v] [] [.str (patX p), .int .i64 (patE p)] [] := by
  have hr := fright_good p hn ht hl hb
  refine good_of hP Tryz.func37 (by kernel_rfl) (lv := [0, 1, 2, 3, 4, 8]) (js := []) ⟨rfl, rfl, rfl, rfl, rfl, rfl, _, rfl, ?_⟩
  unfold patX patE
  conv => whnf
  refine call0 (hr) ?_
  cases hk : patOk p with
  | false =>
    rw [if_neg (by simp), if_neg (by simp)]
    conv => whnf
    exact fin0 rfl trivial
  | true =>
    obtain ⟨h1, h2, h3⟩ := patOk_all hk
    obtain ⟨l1, l2, l3, l4, l5⟩ := patT_len hk
    rw [if_pos rfl]
    have hT : patT p = patW ++ [32] ++ p.n ++ [58, 32] ++ atomT p.t ++ [32, 61, 62, 32] ++ fmlT p.l ++ [46] := rfl
    obtain ⟨n, t, l⟩ := p
    dsimp only at *
    conv => whnf
    refine call0 (atomText_good t ht) ?_
    rw [h2, if_pos rfl]
    conv => whnf
    refine ⟨⟨⟩, by show 8 + n.length ≤ 9223372036854775807; omega, ?_⟩
    conv => whnf
    refine ⟨⟨⟩, by show ([112, 97, 116, 116, 101, 114, 110, 32] ++ n : Bs).length + 2 ≤ 9223372036854775807; simp only [List.length_append, List.length_cons, List.length_nil]; omega, ?_⟩
    conv => whnf
    refine ⟨⟨⟩, by show ([112, 97, 116, 116, 101, 114, 110, 32] ++ n ++ [58, 32] : Bs).length + (atomT t).length ≤ 9223372036854775807; simp only [List.length_append, List.length_cons, List.length_nil]; omega, ?_⟩
    conv => whnf
    refine ⟨⟨⟩, by show ([112, 97, 116, 116, 101, 114, 110, 32] ++ n ++ [58, 32] ++ atomT t : Bs).length + 4 ≤ 9223372036854775807; simp only [List.length_append, List.length_cons, List.length_nil]; omega, ?_⟩
    conv => whnf
    refine call0 (ftx_good l hl hb h3) ?_
    conv => whnf
    refine ⟨⟨⟩, by show ([112, 97, 116, 116, 101, 114, 110, 32] ++ n ++ [58, 32] ++ atomT t ++ [32, 61, 62, 32] : Bs).length + (fmlT l).length ≤ 9223372036854775807; simp only [List.length_append, List.length_cons, List.length_nil]; omega, ?_⟩
    conv => whnf
    refine ⟨⟨⟩, by show ([112, 97, 116, 116, 101, 114, 110, 32] ++ n ++ [58, 32] ++ atomT t ++ [32, 61, 62, 32] ++ fmlT l : Bs).length + 1 ≤ 9223372036854775807; simp only [List.length_append, List.length_cons, List.length_nil]; omega, ?_⟩
    conv => whnf
    refine call0 (limited_good (patT ⟨n, t, l⟩) (by omega)) ?_
    conv => whnf
    refine ⟨by kernel_rfl, ?_⟩
    conv => whnf
    generalize patT ⟨n, t, l⟩ = s at *
    by_cases h : 20000 < s.length
    · rw [if_pos h, if_pos h, if_neg (by simp)]
      exact fin0 rfl trivial
    · rw [if_neg h, if_neg h, if_pos rfl]
      exact fin0 rfl trivial
end Go.PV
namespace Go.PV
open Go Go.Proofs
set_option maxRecDepth 100000
theorem readF_good (l : List Tok) (i : Nat) (hb : tokB l) (hs5 : l.length + 1 ≤ 1000000) (hi : i ≤ l.length) : Good Tryz.prog 38 [.sl 4 (toksV l), .int .i64 i] [] [.sl 5 (nodV (readF l i).1), .int .i64 (readF l i).2.1, .int .i64 (readF l i).2.2] [] := by
  have hv : Iv (rd0 l i) := ⟨hi, fun h => by cases h⟩
  obtain ⟨hfl, hfb⟩ := Rd.formula_b hv
  refine good_of hP Tryz.func38 (by kernel_rfl) (lv := [0, 1, 4, 5, 6, 7, 8, 16, 38, 41]) (js := []) ⟨rfl, rfl, rfl, rfl, rfl, rfl, _, rfl, ?_⟩
  unfold readF
  dsimp only
  conv => whnf
  refine call0 ((begin_good l i hb.1).1 (by omega)) ?_
  rw [Int.toNat_natCast]
  conv => whnf
  refine callN [(84, 0), (1792, 0)] (formula_good (rd0 l i) hb hv) ?_
  conv => whnf
  refine ⟨⟨⟩, rfl, ?_⟩
  conv => whnf
  refine ⟨⟨⟩, rfl, ?_⟩
  generalize (rd0 l i).formula = x at *
  obtain ⟨st, n, r⟩ := x
  dsimp only at hfl hfb
  have hfl : n.length ≤ 1000000 := Nat.le_trans hfl hs5
  conv => whnf
  refine callN [(1792, 0)] (end_good r i) ?_ 
  conv => whnf
  refine ⟨⟨⟩, rfl, ?_⟩
  conv => whnf
  refine branch_of (fun h => ?_) (fun h => ?_)
  · have h : r.endE = 0 := of_decide_eq_true h
    rw [if_pos h]
    conv => whnf
    refine call0 (fcheck_good n hfl hfb) ?_
    cases hk : fmlOk n with
    | true =>
      rw [if_pos rfl, h]
      conv => whnf
      exact fin0 rfl trivial
    | false =>
      rw [if_neg (by simp)]
      conv => whnf
      exact fin0 rfl trivial
  · have h : ¬ r.endE = 0 := of_decide_eq_false h
    have e7 : r.endE = 7 := by
      unfold Rd.endE at *
      split at h
      · rename_i hc; rw [if_pos hc]
      · exact absurd rfl h
    rw [if_neg h, e7]
    conv => whnf
    exact fin0 rfl trivial
theorem readF_bad (l : List Tok) (i : Int) (hl : l.length ≤ 1000000) (hi : ¬ (0 ≤ i ∧ i ≤ l.length)) : Good Tryz.prog 38 [.sl 4 (toksV l), .int .i64 i] [] [.sl 5 [], .int .i64 0, .int .i64 1] [] := by
  refine good_of hP Tryz.func38 (by kernel_rfl) (lv := [0, 1, 4, 5, 6, 7, 8, 16, 38, 41]) (js := []) ⟨rfl, rfl, rfl, rfl, rfl, rfl, _, rfl, ?_⟩
  conv => whnf
  refine call0 ((begin_good l i hl).2 hi) ?_
  conv => whnf
  exact fin0 rfl trivial
theorem readP_good (l : List Tok) (i : Nat) (hb : tokB l) (hs5 : l.length + 1 ≤ 1000000) (hi : i ≤ l.length) : Good Tryz.prog 39 [.sl 4 (toksV l), .int .i64 i] [] [.agg (readP l i).1.v, .int .i64 (readP l i).2.1, .int .i64 (readP l i).2.2] [] := by
  have hv : Iv (rd0 l i) := ⟨hi, fun h => by cases h⟩
  refine good_of hP Tryz.func39 (by kernel_rfl) (lv := [0, 1, 4, 5, 6, 7, 8, 16, 72, 75]) (js := []) ⟨rfl, rfl, rfl, rfl, rfl, rfl, _, rfl, ?_⟩
  unfold readP
  dsimp only
  have hX : patR (rd0 l i) = patR (rd0 l i) := rfl
  generalize hXX : patR (rd0 l i) = X
  unfold patR at hXX
  dsimp only at hXX
  conv => whnf
  refine call0 ((begin_good l i hb.1).1 (by omega)) ?_
  rw [Int.toNat_natCast]
  conv => whnf
  refine callN [(1792, 0)] (ask_good (rd0 l i) patW hb.1) ?_ 
  conv => whnf
  refine ⟨⟨⟩, rfl, ?_⟩
  have v0 := hv.want 1 patW
  have e0 := Rd.want_l (rd0 l i) 1 patW
  generalize (rd0 l i).want 1 patW = r0 at *
  have b0 : tokB r0.l := by rw [e0.1]; exact hb
  conv => whnf
  refine callN [(1792, 0)] (rname_good r0 b0.1 (fun t h => Nat.le_trans (b0.2 t h) (by omega))) ?_ 
  conv => whnf
  refine ⟨⟨⟩, rfl, ?_⟩
  have v1 := v0.name
  have s1 := Rd.name_s r0
  have e1 := Rd.name_l r0
  generalize r0.name = r1 at *
  have b1 : tokB r1.2.l := by rw [e1.1]; exact b0
  conv => whnf
  refine callN [(1792, 0)] (want_good r1.2 [58] b1.1) ?_ 
  conv => whnf
  refine ⟨⟨⟩, rfl, ?_⟩
  have v2 := v1.want 5 [58]
  have e2 := Rd.want_l r1.2 5 [58]
  generalize r1.2.want 5 [58] = r2 at *
  have b2 : tokB r2.l := by rw [e2.1]; exact b1
  conv => whnf
  refine callN [(1792, 0)] (ratom_good r2 b2) ?_ 
  conv => whnf
  refine ⟨⟨⟩, rfl, ?_⟩
  have v3 := v2.atom
  have s3 := Rd.atom_s r2
  have e3 := Rd.atom_l r2
  generalize r2.atom = r3 at *
  have b3 : tokB r3.2.l := by rw [e3.1]; exact b2
  conv => whnf
  refine callN [(1792, 0)] (want_good r3.2 [61, 62] b3.1) ?_ 
  conv => whnf
  refine ⟨⟨⟩, rfl, ?_⟩
  have v4 := v3.want 5 [61, 62]
  have e4 := Rd.want_l r3.2 5 [61, 62]
  generalize r3.2.want 5 [61, 62] = r4 at *
  have b4 : tokB r4.l := by rw [e4.1]; exact b3
  conv => whnf
  refine callN [(85, 0), (1792, 0)] (formula_good r4 b4 v4) ?_
  conv => whnf
  refine ⟨⟨⟩, rfl, ?_⟩
  conv => whnf
  refine ⟨⟨⟩, rfl, ?_⟩
  obtain ⟨hfl, hfb⟩ := Rd.formula_b v4
  have e5 := Rd.formula_l r4
  generalize r4.formula = x at *
  obtain ⟨st, n, r5⟩ := x
  dsimp only at hfl hfb e5 hXX
  have hl4 : r4.l = l := by rw [e4.1, e3.1, e2.1, e1.1, e0.1]
  have hfl : n.length ≤ 1000000 := by rw [hl4] at hfl; exact Nat.le_trans hfl hs5
  have b5 : tokB r5.l := by rw [e5.1]; exact b4
  conv => whnf
  refine callN [(1792, 0)] (want_good r5 [46] b5.1) ?_ 
  conv => whnf
  refine ⟨⟨⟩, rfl, ?_⟩
  generalize r5.want 5 [46] = r6 at *
  conv => whnf
  refine callN [(1792, 0)] (end_good r6 i) ?_ 
  conv => whnf
  refine ⟨⟨⟩, rfl, ?_⟩
  subst hXX
  dsimp only
  conv => whnf
  refine branch_of (fun h => ?_) (fun h => ?_)
  · have h : r6.endE = 0 := of_decide_eq_true h
    rw [if_pos h]
    conv => whnf
    refine call0 (fright_good ⟨r1.1, r3.1, n⟩ s1 s3 hfl hfb) ?_
    cases hk : patOk ⟨r1.1, r3.1, n⟩ with
    | true =>
      rw [if_pos rfl, h]
      conv => whnf
      exact fin0 rfl trivial
    | false =>
      rw [if_neg (by simp)]
      conv => whnf
      exact fin0 rfl trivial
  · have h : ¬ r6.endE = 0 := of_decide_eq_false h
    have e7 : r6.endE = 7 := by
      unfold Rd.endE at *
      split at h
      · rename_i hc; rw [if_pos hc]
      · exact absurd rfl h
    rw [if_neg h, e7]
    conv => whnf
    exact fin0 rfl trivial
theorem readP_bad (l : List Tok) (i : Int) (hl : l.length ≤ 1000000) (hi : ¬ (0 ≤ i ∧ i ≤ l.length)) : Good Tryz.prog 39 [.sl 4 (toksV l), .int .i64 i] [] [.agg zeroP.v, .int .i64 0, .int .i64 1] [] := by
  refine good_of hP Tryz.func39 (by kernel_rfl) (lv := [0, 1, 4, 5, 6, 7, 8, 16, 72, 75]) (js := []) ⟨rfl, rfl, rfl, rfl, rfl, rfl, _, rfl, ?_⟩
  conv => whnf
  refine call0 ((begin_good l i hl).2 hi) ?_
  conv => whnf
  exact fin0 rfl trivial
end Go.PV
namespace Go.PV
open Go
/-! the pattern of law 12's wakes -/
def p12 : Pat := ⟨[97], ⟨[114], [⟨[88], zeroV⟩]⟩, [⟨1, ⟨[112], [⟨[88], zeroV⟩]⟩, 0, 0⟩, ⟨2, zeroA, 0, 0⟩, ⟨1, ⟨[113], [⟨[88], zeroV⟩]⟩, 0, 0⟩, ⟨8, zeroA, 1, 2⟩]⟩
def w12 : Bs := [112, 97, 116, 116, 101, 114, 110, 32, 97, 58, 32, 114, 40, 88, 41, 32, 61, 62, 32, 40, 110, 111, 116, 32, 112, 40, 88, 41, 32, 115, 105, 110, 99, 101, 32, 113, 40, 88, 41, 41, 46]
theorem p12_ok : patOk p12 = true := by decide +kernel
theorem p12_T : patT p12 = w12 := by decide +kernel
theorem p12_X : patX p12 = w12 ∧ patE p12 = 0 := by decide +kernel
theorem p12_F : fmlX p12.l = [40, 110, 111, 116, 32, 112, 40, 88, 41, 32, 115, 105, 110, 99, 101, 32, 113, 40, 88, 41, 41] ∧ fmlE p12.l = 0 := by decide +kernel
theorem p12_N : fromN p12.l 1 = 0 ∧ fromN p12.l 2 = 2 := by decide +kernel
theorem nodes_eq {a b : List Nod} (hl : a.length = b.length) (h : ∀ (j : Nat) (h1 : j < a.length) (h2 : j < b.length), a[j] = b[j]) : a = b := List.ext_getElem hl fun j h1 h2 => h j h1 h2
end Go.PV
namespace Go.PV
open Go
/-! long regions, piece by piece (the kernel looks at the rest of a piece under its binder) -/
theorem Pr.wp_mono : ∀ (p : Pr) {s : St} {A B : List Loc} {K1 K2 : St → List Loc → List Loc → Prop}, (∀ s A B, K1 s A B → K2 s A B) → p.wp s A B K1 → p.wp s A B K2 := by
  intro p
  induction p with
  | done => intro s A B K1 K2 hk h; exact hk _ _ _ h
  | fail => intro s A B K1 K2 hk h; exact h
  | get t k ih => intro s A B K1 K2 hk h; simp only [Pr.wp, forceW_eq] at h ⊢; exact ih _ hk h
  | put t v k ih => intro s A B K1 K2 hk h; simp only [Pr.wp, St.putP_eq] at h ⊢; exact ih hk h
  | getO id k ih => intro s A B K1 K2 hk h; exact ih _ hk h
  | putO id o k ih => intro s A B K1 K2 hk h; simp only [Pr.wp, St.putOP_eq] at h ⊢; exact ih hk h
  | brs t p q ihp ihq =>
    intro s A B K1 K2 hk h
    simp only [Pr.wp] at h ⊢
    split at h
    · rename_i b hb
      simp only [St.putP_eq] at h ⊢
      cases b with
      | true => exact ihp hk h
      | false => exact ihq hk h
    · exact h.elim
  | ex β φ k ih => intro s A B K1 K2 hk h; obtain ⟨b, hb, h⟩ := h; exact ⟨b, hb, ih _ hk h⟩
theorem regSeq_app {P : Program} [Env P] {nt : Nat} {ops : List Oper} {K : St → Prop} : ∀ (l m : List Oper) (s : St), (regSeq P nt ops l s fun s' => regSeq P nt ops m s' K) → regSeq P nt ops (l ++ m) s K
  | [], m, s, h => h
  | o :: l, m, s, h => by
    simp only [List.cons_append, regSeq] at h ⊢
    exact Pr.wp_mono _ (fun s' _ _ hs => regSeq_app l m s' hs) h
theorem regSeq_mono {P : Program} [Env P] {nt : Nat} {ops : List Oper} : ∀ (l : List Oper) (s : St) (K K' : St → Prop), (∀ s, K s → K' s) → regSeq P nt ops l s K → regSeq P nt ops l s K'
  | [], s, K, K', hk, h => hk s h
  | o :: l, s, K, K', hk, h => by
    simp only [regSeq] at h ⊢
    exact Pr.wp_mono _ (fun s' _ _ hs => regSeq_mono l s' K K' hk hs) h
def regCut (n : Nat) (P : Program) [Env P] (nt : Nat) (ops : List Oper) : Nat → List Oper → St → (St → Prop) → Prop
  | 0, l, s, K => regSeq P nt ops l s K
  | f + 1, l, s, K => regSeq P nt ops (l.take n) s fun s' => regCut n P nt ops f (l.drop n) s' K
theorem regCut_ok {n : Nat} {P : Program} [Env P] {nt : Nat} {ops : List Oper} {K : St → Prop} : ∀ (f : Nat) (l : List Oper) (s : St), regCut n P nt ops f l s K → regSeq P nt ops l s K
  | 0, l, s, h => h
  | f + 1, l, s, h => by
    have : regSeq P nt ops (l.take n ++ l.drop n) s K := regSeq_app _ _ _ (regSeq_mono _ _ _ _ (fun s' hs => regCut_ok f _ s' hs) h)
    rwa [List.take_append_drop] at this
/-- a region, n operations at a time, f times -/
theorem reg_cut (n f : Nat) {P : Program} [Env P] {nt i : Nat} {ops : Array Oper} {lv js : List Nat} {s : St} {Q : Exit → St → Prop} (h : regCut n P nt ops.toList f ops.toList s fun s' => prune lv s' fun s'' => Q .normal s'') : ev P nt lv js (.region i ops false) s Q := regCut_ok f _ s h
/-- a stop ahead of a region: on, without a cut -/
theorem seq_go {P : Program} [Env P] (hP : P.follows .mixedOrders = true) {nt : Nat} {x y : Code} {s : St} {Q : Exit → St → Prop} (lv js : List Nat)
    (h : ev P nt lv js x s (thenQ (fun s' => ev P nt lv js y s' Q) Q)) : SeqP P nt x y s Q := by
  refine ⟨fun E a w hnt hR => wp_seq (wp_mono (ev_ok hP h E a w hnt hR) ?_)⟩
  rintro e a' w' ⟨s', hq, hR'⟩
  cases e with
  | normal => exact ev_ok hP (show ev P nt lv js y s' Q from hq) E a' w' hnt hR'
  | exit i => exact ⟨s', hq, hR'⟩
  | goto l => exact ⟨s', hq, hR'⟩
  | ret => exact ⟨s', hq, hR'⟩
  | panic c => exact ⟨s', hq, hR'⟩
  | outgrown => exact ⟨s', hq, hR'⟩
end Go.PV
namespace Go.PV
open Go Go.Proofs
set_option maxRecDepth 100000
def nodsH (l : List Nod) : Bool := decide (60 < l.length) || l.any fun o => atmH o.a
def patH (p : Pat) : Bool := decide (200 < p.n.length) || (atmH p.t || nodsH p.l)
theorem atmH_B2 {a : Atm} (h : atmH a = false) : a.n.length ≤ 200 ∧ a.a.length ≤ 20 ∧ ∀ t ∈ a.a, t.v.length ≤ 200 ∧ t.x.s.length ≤ 200 := by
  unfold atmH trmH at h
  simp at h
  exact ⟨by omega, by omega, fun t ht => by have := h.2 t ht; exact ⟨by omega, by omega⟩⟩
theorem atmH_N {a : Atm} (h : atmH a = false) : a.n.length ≤ 1000000 ∧ a.a.length ≤ 1000000 ∧ ∀ t ∈ a.a, t.v.length ≤ 1000000 ∧ t.x.s.length ≤ 1000000 := by
  obtain ⟨h1, h2, h3⟩ := atmH_B2 h
  exact ⟨by omega, by omega, fun t ht => by have := h3 t ht; exact ⟨by omega, by omega⟩⟩
theorem nodsH_B {l : List Nod} (h : nodsH l = false) : l.length ≤ 60 ∧ ∀ o ∈ l, nodB o := by
  unfold nodsH at h
  simp only [Bool.or_eq_false_iff, decide_eq_false_iff_not, List.any_eq_false] at h
  exact ⟨by omega, fun o ho => atmH_N (by simpa using h.2 o ho)⟩
theorem patH_B {p : Pat} (h : patH p = false) : p.n.length ≤ 1000000 ∧ (p.t.n.length ≤ 1000000 ∧ p.t.a.length ≤ 1000000 ∧ ∀ t ∈ p.t.a, t.v.length ≤ 1000000 ∧ t.x.s.length ≤ 1000000) ∧ p.l.length ≤ 1000000 ∧ ∀ o ∈ p.l, nodB o := by
  unfold patH at h
  simp only [Bool.or_eq_false_iff, decide_eq_false_iff_not] at h
  obtain ⟨q1, q2⟩ := nodsH_B h.2.2
  exact ⟨by omega, atmH_N h.2.1, by omega, q2⟩
theorem heavyN_good (l : List Nod) : Good Tryz.prog 25 [.sl 5 (nodV l)] [] [.bool (nodsH l)] [] := by
  have hll : (nodV l).length = l.length := List.length_map _
  refine good_of hP Tryz.func25 (by kernel_rfl) (lv := [0, 2, 3, 6, 10, 18]) (js := []) ⟨rfl, rfl, rfl, rfl, rfl, rfl, _, rfl, ?_⟩
  unfold nodsH
  conv => whnf
  refine branch_of (fun h => ?_) (fun h => ?_)
  · have h := of_decide_eq_true h
    rw [hll] at h
    have h : 60 < l.length := by omega
    conv => whnf
    exact fin0 (by simp [h]) trivial
  have h := of_decide_eq_false h
  rw [hll] at h
  have h2 : ¬ 60 < l.length := by omega
  rw [decide_eq_false h2]
  conv => whnf
  refine loop_of hP [0, 2, 3, 6, 10, 18] [] [0, 3] [] [] (fun n st => ∃ k : Nat, n = l.length - k ∧ k ≤ l.length ∧ (l.any fun o => atmH o.a) = ((l.drop k).any fun o => atmH o.a) ∧ st = ⟨[(0, .sl 5 (nodV l)), (3, .int .i64 k)], []⟩) l.length ?_ ?_
  · conv => whnf
    exact ⟨0, rfl, Nat.zero_le _, rfl, rfl⟩
  · rintro n st ⟨k, rfl, hk, he, rfl⟩
    conv => whnf
    refine branch_of (fun h => ?_) (fun h => ?_)
    · have h := of_decide_eq_true h
      rw [hll] at h
      have hk' : k < l.length := by omega
      rw [anyL_step hk'] at he
      conv => whnf
      refine ⟨Nod.c l[k], idxM hk' rfl, ?_⟩
      conv => whnf
      refine call0 (heavyA_good l[k].a) ?_
      cases hc : atmH l[k].a with
      | true =>
        rw [hc, Bool.true_or] at he
        rw [he]
        conv => whnf
        exact fin0 rfl trivial
      | false =>
        rw [hc, Bool.false_or] at he
        conv => whnf
        refine ⟨l.length - (k + 1), by omega, k + 1, rfl, by omega, he, ?_⟩
        rw [wr (by omega) (by omega)]; rfl
    · have h := of_decide_eq_false h
      rw [hll] at h
      rw [anyL_end (by omega)] at he
      rw [he]
      conv => whnf
      exact fin0 rfl trivial
theorem heavyP_good (p : Pat) : Good Tryz.prog 35 [.agg p.v] [] [.bool (patH p)] [] := by
  obtain ⟨n, t, l⟩ := p
  refine good_of hP Tryz.func35 (by kernel_rfl) (lv := [0, 1, 2]) (js := []) ⟨rfl, rfl, rfl, rfl, rfl, rfl, _, rfl, ?_⟩
  unfold patH
  dsimp only
  conv => whnf
  refine branch_of (fun h => ?_) (fun h => ?_)
  · have h : 200 < n.length := by have := of_decide_eq_true h; dsimp only at this; omega
    rw [show decide (200 < n.length) = true from decide_eq_true h]
    conv => whnf
    exact fin0 rfl trivial
  have h1 : ¬ 200 < n.length := by have := of_decide_eq_false h; dsimp only at this; omega
  rw [show decide (200 < n.length) = false from decide_eq_false h1]
  conv => whnf
  refine call0 (heavyA_good t) ?_
  cases atmH t with
  | true =>
    conv => whnf
    exact fin0 rfl trivial
  | false =>
    conv => whnf
    refine call0 (heavyN_good l) ?_
    conv => whnf
    exact fin0 rfl trivial
theorem keepNodes_good (a b : List Nod) (ha : a.length ≤ 1000000) (hb : ∀ o ∈ a, nodB o) : Good Tryz.prog 42 [.sl 5 (nodV a), .sl 5 (nodV b)] [] [.bool (decide (a = b))] [] := by
  have hla : (nodV a).length = a.length := List.length_map _
  have hlb : (nodV b).length = b.length := List.length_map _
  refine good_of hP Tryz.func42 (by kernel_rfl) (lv := [0, 1, 4, 5, 10, 14, 67]) (js := []) ⟨rfl, rfl, rfl, rfl, rfl, rfl, _, rfl, ?_⟩
  conv => whnf
  refine branch_of (fun h => ?_) (fun h => ?_)
  · rw [Bool.not_eq_true'] at h
    have h := of_decide_eq_false h
    rw [hla, hlb] at h
    conv => whnf
    exact fin0 (by rw [decide_eq_false (fun e => h (by rw [e]))]) trivial
  rw [Bool.not_eq_false'] at h
  have h := of_decide_eq_true h
  rw [hla, hlb] at h
  have hl : a.length = b.length := by omega
  conv => whnf
  refine loop_of hP [0, 1, 4, 5, 10, 14, 67] [] [0, 1, 5] [] [] (fun n st => ∃ k : Nat, n = a.length - k ∧ k ≤ a.length ∧ (∀ j (h1 : j < a.length) (h2 : j < b.length), j < k → a[j] = b[j]) ∧ st = ⟨[(0, .sl 5 (nodV a)), (1, .sl 5 (nodV b)), (5, .int .i64 k)], []⟩) a.length ?_ ?_
  · conv => whnf
    exact ⟨0, rfl, Nat.zero_le _, fun j _ _ h => by omega, rfl⟩
  · rintro n st ⟨k, rfl, hk, hn, rfl⟩
    conv => whnf
    refine branch_of (fun h => ?_) (fun h => ?_)
    · have h := of_decide_eq_true h
      rw [hla] at h
      have h1 : k < a.length := by omega
      have h2 : k < b.length := by omega
      have hne : a[k] ≠ b[k] → decide (a = b) = false := fun hq => decide_eq_false fun e => by subst e; exact hq rfl
      have r1 := idxM (f := Nod.c) h1 (rfl : ((k : Nat) : Int) = k)
      have r2 := idxM (f := Nod.c) h2 (rfl : ((k : Nat) : Int) = k)
      have hbk := hb _ (List.getElem_mem h1)
      have hsame : a[k] = b[k] → ∀ j (h1 : j < a.length) (h2 : j < b.length), j < k + 1 → a[j] = b[j] := fun e j q1 q2 q3 => by
        by_cases e2 : j = k
        · subst e2; exact e
        · exact hn j q1 q2 (by omega)
      generalize a[k] = x at *
      generalize b[k] = y at *
      obtain ⟨xk, xa, xx, xy⟩ := x
      obtain ⟨yk, ya, yx, yy⟩ := y
      conv => whnf
      refine ⟨_, r1, ?_⟩
      conv => whnf
      refine ⟨_, r2, ?_⟩
      conv => whnf
      refine branch_of (fun g1 => ?_) (fun g1 => ?_)
      · rw [Bool.not_eq_true'] at g1
        have g1 : ¬ xk = yk := of_decide_eq_false g1
        rw [hne (fun e => g1 (by injection e))]
        conv => whnf
        refine ⟨by kernel_rfl, ?_⟩
        conv => whnf
        exact fin0 rfl trivial
      rw [Bool.not_eq_false'] at g1
      have g1 : xk = yk := of_decide_eq_true g1
      conv => whnf
      refine ⟨_, r1, ?_⟩
      conv => whnf
      refine ⟨_, r2, ?_⟩
      conv => whnf
      refine branch_of (fun g2 => ?_) (fun g2 => ?_)
      · rw [Bool.not_eq_true'] at g2
        have g2 : ¬ xx = yx := of_decide_eq_false g2
        rw [hne (fun e => g2 (by injection e))]
        conv => whnf
        refine ⟨by kernel_rfl, ?_⟩
        conv => whnf
        exact fin0 rfl trivial
      rw [Bool.not_eq_false'] at g2
      have g2 : xx = yx := of_decide_eq_true g2
      conv => whnf
      refine ⟨_, r1, ?_⟩
      conv => whnf
      refine ⟨_, r2, ?_⟩
      conv => whnf
      refine branch_of (fun g3 => ?_) (fun g3 => ?_)
      · rw [Bool.not_eq_true'] at g3
        have g3 : ¬ xy = yy := of_decide_eq_false g3
        rw [hne (fun e => g3 (by injection e))]
        conv => whnf
        refine ⟨by kernel_rfl, ?_⟩
        conv => whnf
        exact fin0 rfl trivial
      rw [Bool.not_eq_false'] at g3
      have g3 : xy = yy := of_decide_eq_true g3
      conv => whnf
      refine ⟨_, r1, ?_⟩
      conv => whnf
      refine ⟨_, r2, ?_⟩
      conv => whnf
      refine call0 (keepAtom_good xa ya hbk.2.1) ?_
      by_cases g4 : xa = ya
      · rw [decide_eq_true g4]
        conv => whnf
        refine ⟨by kernel_rfl, ?_⟩
        conv => whnf
        refine ⟨a.length - (k + 1), by omega, k + 1, rfl, by omega, hsame (by rw [g1, g2, g3, g4]), ?_⟩
        rw [wr (by omega) (by omega)]; rfl
      · rw [decide_eq_false g4, hne (fun e => g4 (by injection e))]
        conv => whnf
        refine ⟨by kernel_rfl, ?_⟩
        conv => whnf
        exact fin0 rfl trivial
    · have h := of_decide_eq_false h
      rw [hla] at h
      have e : a = b := nodes_eq hl fun j q1 q2 => hn j q1 q2 (by omega)
      rw [decide_eq_true e]
      conv => whnf
      exact fin0 rfl trivial
theorem keepPat_good (a b : Pat) (ht : a.t.a.length ≤ 1000000) (ha : a.l.length ≤ 1000000) (hb : ∀ o ∈ a.l, nodB o) : Good Tryz.prog 43 [.agg a.v, .agg b.v] [] [.bool (decide (a = b))] [] := by
  obtain ⟨an, at_, al⟩ := a
  obtain ⟨bn, bt, bl⟩ := b
  dsimp only at ht ha hb
  refine good_of hP Tryz.func43 (by kernel_rfl) (lv := [0, 1, 2, 3, 4]) (js := []) ⟨rfl, rfl, rfl, rfl, rfl, rfl, _, rfl, ?_⟩
  conv => whnf
  refine branch_of (fun h => ?_) (fun h => ?_)
  · have h : an = bn := of_decide_eq_true h
    subst h
    conv => whnf
    refine call0 (keepAtom_good at_ bt ht) ?_
    by_cases h : at_ = bt
    · subst h
      rw [decide_eq_true rfl]
      conv => whnf
      refine call0 (keepNodes_good al bl ha hb) ?_
      conv => whnf
      refine fin0 ?_ trivial
      have : decide (al = bl) = decide ((⟨an, at_, al⟩ : Pat) = ⟨an, at_, bl⟩) := by rw [decide_eq_decide]; simp
      rw [this]
    · rw [decide_eq_false h, show decide ((⟨an, at_, al⟩ : Pat) = ⟨an, bt, bl⟩) = false from decide_eq_false (fun e => h (by injection e))]
      conv => whnf
      exact fin0 rfl trivial
  · have h : ¬ an = bn := of_decide_eq_false h
    rw [show decide ((⟨an, at_, al⟩ : Pat) = ⟨bn, bt, bl⟩) = false from decide_eq_false (fun e => h (by injection e))]
    conv => whnf
    exact fin0 rfl trivial
theorem p12_B : (∀ o ∈ p12.l, nodB o) ∧ (p12.t.n.length ≤ 1000000 ∧ p12.t.a.length ≤ 1000000 ∧ ∀ t ∈ p12.t.a, t.v.length ≤ 1000000 ∧ t.x.s.length ≤ 1000000) := by
  have : patH p12 = false := by decide +kernel
  exact ⟨(patH_B this).2.2.2, (patH_B this).2.1⟩
theorem p12_all : ∃ (P : Pat) (w f : Bs) (n : Nat) (e0 e1 e2 e3 a1 a2 : Int), errR w12 = e0 ∧ readP (toksR w12) 0 = (P, n, e1) ∧ patX P = w ∧ patE P = e2 ∧ fmlX P.l = f ∧ fmlE P.l = e3 ∧ fromN P.l 1 = a1 ∧ fromN P.l 2 = a2 ∧ P.l.length = 4 ∧ P.n.length ≤ 1000000 ∧ (∀ o ∈ P.l, nodB o) ∧ (P.t.n.length ≤ 1000000 ∧ P.t.a.length ≤ 1000000 ∧ ∀ t ∈ P.t.a, t.v.length ≤ 1000000 ∧ t.x.s.length ≤ 1000000) ∧
    w = [112, 97, 116, 116, 101, 114, 110, 32, 97, 58, 32, 114, 40, 88, 41, 32, 61, 62, 32, 40, 110, 111, 116, 32, 112, 40, 88, 41, 32, 115, 105, 110, 99, 101, 32, 113, 40, 88, 41, 41, 46] ∧ f = [40, 110, 111, 116, 32, 112, 40, 88, 41, 32, 115, 105, 110, 99, 101, 32, 113, 40, 88, 41, 41] ∧ n = (toksR w12).length ∧ e0 = 0 ∧ e1 = 0 ∧ e2 = 0 ∧ e3 = 0 ∧ a1 = 0 ∧ a2 = 2 := by
  have hp := parse_pat p12_ok
  rw [p12_T] at hp
  exact ⟨p12, _, _, _, _, _, _, _, _, _, hp.1, hp.2, rfl, p12_X.2, rfl, p12_F.2, p12_N.1, p12_N.2, rfl, by decide, p12_B.1, p12_B.2, p12_X.1, p12_F.1, rfl, rfl, rfl, rfl, rfl, rfl, rfl⟩
theorem w12_len : (toksR w12).length + 1 ≤ 1000000 := by
  rcases chain_len (chain_R w12) with h | h
  · have : w12.length = 41 := rfl
    omega
  · rw [h]; decide
theorem wakes12_good : Good Tryz.prog 31 [] [] [.bool true] [] := by
  refine good_of hP Tryz.func31 (by kernel_rfl) (lv := [0, 1, 3, 4, 5, 6, 7, 8, 9, 10]) (js := []) ⟨rfl, rfl, rfl, rfl, rfl, rfl, _, rfl, ?_⟩
  obtain ⟨P, w, f, n, e0, e1, e2, e3, a1, a2, h1, h2, h3, h4, h5, h6, h7, h8, h9, h10, h11, h12, h13, h14, hn, q0, q1, q2, q3, q4, q5⟩ := p12_all
  have hb := tokB_R w12 (by decide)
  have hr := readP_good (toksR w12) 0 hb w12_len (Nat.zero_le _)
  rw [h2] at hr
  conv => whnf
  refine call0 (tokens_good w12 (by decide)) ?_
  rw [h1]
  clear h2 h1
  generalize toksR w12 = l at *
  generalize posR w12 = z
  conv => whnf
  refine call0 (hr) ?_
  conv => whnf
  refine call0 (fpattern_good P h10 h12 (by omega) h11) ?_
  rw [h3, h4]
  conv => whnf
  refine call0 (ftext_good P.l (by omega) h11) ?_
  rw [h5, h6]
  conv => whnf
  refine branch_of (fun g => ?_) (fun g => ?_)
  · conv => whnf
    refine branch_of (fun g => ?_) (fun g => ?_)
    · conv => whnf
      refine branch_of (fun g => ?_) (fun g => ?_)
      · conv => whnf
        refine branch_of (fun g => ?_) (fun g => ?_)
        · conv => whnf
          refine branch_of (fun g => ?_) (fun g => ?_)
          · conv => whnf
            refine branch_of (fun g => ?_) (fun g => ?_)
            · conv => whnf
              refine branch_of (fun g => ?_) (fun g => ?_)
              · conv => whnf
                refine branch_of (fun g => ?_) (fun g => ?_)
                · conv => whnf
                  refine call0 (ffrom_good P.l 1 (by omega) h11) ?_
                  rw [h7]
                  conv => whnf
                  refine branch_of (fun g => ?_) (fun g => ?_)
                  · conv => whnf
                    refine call0 (ffrom_good P.l 2 (by omega) h11) ?_
                    rw [h8]
                    conv => whnf
                    refine branch_of (fun g => ?_) (fun g => ?_)
                    · conv => whnf
                      refine call0 (fcheck_good [] (by decide) (fun o ho => by cases ho)) ?_
                      conv => whnf
                      exact fin0 rfl trivial
                    · exact absurd q5 (of_decide_eq_false g)
                  · exact absurd q4 (of_decide_eq_false g)
                · exact absurd h14 (of_decide_eq_false g)
              · exact absurd q3 (of_decide_eq_false g)
            · exact absurd h13 (of_decide_eq_false g)
          · exact absurd q2 (of_decide_eq_false g)
        · have g := of_decide_eq_false g
          rw [List.length_map] at g
          exact absurd (show ((P.l.length : Nat) : Int) = 4 by omega) g
      · have g := of_decide_eq_false g
        rw [List.length_map] at g; exact absurd (by rw [hn]) g
    · exact absurd q1 (of_decide_eq_false g)
  · exact absurd q0 (of_decide_eq_false g)
end Go.PV
