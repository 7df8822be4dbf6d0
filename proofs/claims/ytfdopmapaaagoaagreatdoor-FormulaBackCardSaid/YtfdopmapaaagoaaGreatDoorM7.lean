/- Part of the proof. -/
import Derived.Test.YtfdopmapaaagoaaGreatDoorM6
import Derived.ChangeArms
import Derived.DataElems
import Derived.DataReads
import Derived.SizedLaws
import Derived.ChangeSlices
import Derived.WideShapes
import Derived.ChangeShapes
import Derived.JoinedOf
import Derived.SevenTiedAt
import Derived.Test.YtfdopmapaaagoaaGreatDoorRows
import Derived.LaidMore
import Derived.Stop.LaidErr
import Derived.Lib.LaidTab
import Derived.MakeChecks
import Derived.LaidLaws
set_option linter.unusedVariables false
set_option linter.unusedSimpArgs false
namespace Go.PV
open Go Go.Proofs
set_option maxRecDepth 100000
theorem toksH_L {l : List Tok} (h : toksH l = false) : l.length + 1 ≤ 1000000 := by
  unfold toksH tokH at h
  simp at h
  omega
theorem toks_le (s : Bs) (hs : s.length ≤ 20000) : (toksR s).length + 1 ≤ 1000000 := by
  rcases chain_len (chain_R s) with h | h
  · omega
  · rw [h]; decide
theorem patE_cases (p : Pat) : (patE p = 0 ∧ patOk p = true ∧ (patT p).length ≤ 20000 ∧ patX p = patT p) ∨ (patE p ≠ 0 ∧ patX p = [] ∧ (patOk p = true → patE p = 2)) := by
  unfold patX patE
  cases h : patOk p with
  | false => right; exact ⟨by simp, by simp, by simp⟩
  | true =>
    by_cases hl : 20000 < (patT p).length
    · right; simp [hl]
    · left; exact ⟨by simp [hl], rfl, by omega, by simp [hl]⟩
theorem readPB (l : List Tok) (i : Nat) (hi : i ≤ l.length) (hl : l.length + 1 ≤ 1000000) : (readP l i).1.n.length ≤ 1000000 ∧ ((readP l i).1.t.n.length ≤ 1000000 ∧ (readP l i).1.t.a.length ≤ 1000000 ∧ ∀ t ∈ (readP l i).1.t.a, t.v.length ≤ 1000000 ∧ t.x.s.length ≤ 1000000) ∧ (readP l i).1.l.length ≤ 1000000 ∧ ∀ o ∈ (readP l i).1.l, nodB o := by
  have hz : zeroP.n.length ≤ 1000000 ∧ (zeroP.t.n.length ≤ 1000000 ∧ zeroP.t.a.length ≤ 1000000 ∧ ∀ t ∈ zeroP.t.a, t.v.length ≤ 1000000 ∧ t.x.s.length ≤ 1000000) ∧ zeroP.l.length ≤ 1000000 ∧ ∀ o ∈ zeroP.l, nodB o := ⟨Nat.zero_le _, ⟨Nat.zero_le _, Nat.zero_le _, fun t ht => (by cases ht)⟩, Nat.zero_le _, fun o ho => (by cases ho)⟩
  have hv : Iv (rd0 l i) := ⟨hi, fun h => by cases h⟩
  have hr : (patR (rd0 l i)).1.n.length ≤ 1000000 ∧ ((patR (rd0 l i)).1.t.n.length ≤ 1000000 ∧ (patR (rd0 l i)).1.t.a.length ≤ 1000000 ∧ ∀ t ∈ (patR (rd0 l i)).1.t.a, t.v.length ≤ 1000000 ∧ t.x.s.length ≤ 1000000) ∧ (patR (rd0 l i)).1.l.length ≤ 1000000 ∧ ∀ o ∈ (patR (rd0 l i)).1.l, nodB o := by
    unfold patR
    dsimp only
    have e0 := Rd.want_l (rd0 l i) 1 patW
    have v0 := hv.want 1 patW
    have v1 := v0.name
    have e1 := Rd.name_l ((rd0 l i).want 1 patW)
    have s1 := Rd.name_s ((rd0 l i).want 1 patW)
    generalize ((rd0 l i).want 1 patW).name = v at *
    have e2 := Rd.want_l v.2 5 [58]
    have v2 := v1.want 5 [58]
    have v3 := v2.atom
    have e3 := Rd.atom_l (v.2.want 5 [58])
    have s3 := Rd.atom_s (v.2.want 5 [58])
    generalize (v.2.want 5 [58]).atom = u at *
    have e4 := Rd.want_l u.2 5 [61, 62]
    have v4 := v3.want 5 [61, 62]
    obtain ⟨f1, f2⟩ := Rd.formula_b v4
    have : (u.2.want 5 [61, 62]).l = l := by rw [e4.1, e3.1, e2.1, e1.1, e0.1]
    rw [this] at f1
    exact ⟨s1, s3, by omega, f2⟩
  unfold readP
  dsimp only
  split
  · split
    · exact hr
    · exact hz
  · exact hz
theorem readFB (l : List Tok) (i : Nat) (hi : i ≤ l.length) (hl : l.length + 1 ≤ 1000000) : (readF l i).1.length ≤ 1000000 ∧ ∀ o ∈ (readF l i).1, nodB o := by
  have hv : Iv (rd0 l i) := ⟨hi, fun h => by cases h⟩
  obtain ⟨f1, f2⟩ := Rd.formula_b hv
  have : (rd0 l i).l = l := rfl
  rw [this] at f1
  unfold readF
  dsimp only
  split
  · split
    · exact ⟨by dsimp only; omega, f2⟩
    · exact ⟨Nat.zero_le _, fun o ho => by cases ho⟩
  · exact ⟨Nat.zero_le _, fun o ho => by cases ho⟩
theorem formulaBack_good (a b : Pat) (l : List Tok) (i : Int) {p1 p2 : Prop} (_ : p1) (_ : p2) (_ : l.length ≤ maxLen) {p : Tok → Prop} (_ : ∀ v ∈ l, p v) (_ : (Lit.int .i64 i).wf = true) : Good Tryz.prog 10 [.agg a.v, .agg b.v, .sl 4 (toksV l), .int .i64 i] [] [.bool true] [] := by
  refine good_of hP Tryz.func10 (by kernel_rfl) (lv := [0, 1, 2, 3, 4, 5, 8, 9, 10, 11, 12, 13, 14, 16, 17, 18, 19, 20, 21, 23, 24, 25, 26, 27, 28, 29, 31, 32, 33, 34, 44, 69, 78, 100, 116, 181]) (js := [69, 78]) ⟨rfl, rfl, rfl, rfl, rfl, rfl, _, rfl, ?_⟩
  conv => whnf
  refine call0 (heavyP_good a) ?_
  cases ha : patH a with
  | true =>
    conv => whnf
    exact fin0 rfl trivial
  | false =>
  obtain ⟨a1, a2, a3, a4⟩ := patH_B ha
  conv => whnf
  refine call0 (heavyP_good b) ?_
  cases hb : patH b with
  | true =>
    conv => whnf
    exact fin0 rfl trivial
  | false =>
  obtain ⟨b1, b2, b3, b4⟩ := patH_B hb
  conv => whnf
  refine call0 (heavyT_good l) ?_
  cases ht : toksH l with
  | true =>
    conv => whnf
    exact fin0 rfl trivial
  | false =>
  have htb := toksH_B ht
  have htl := toksH_L ht
  obtain ⟨z, zi, ze, hz1, hz2, hz3⟩ : ∃ (z : List Nod) (zi ze : Int), (ze = 0 → fmlOk z = true ∧ i < zi ∧ zi ≤ l.length) ∧ (z.length ≤ 1000000 ∧ ∀ o ∈ z, nodB o) ∧ Good Tryz.prog 38 [.sl 4 (toksV l), .int .i64 i] [] [.sl 5 (nodV z), .int .i64 zi, .int .i64 ze] [] := by
    by_cases hi : 0 ≤ i ∧ i ≤ l.length
    · obtain ⟨n, rfl⟩ : ∃ n : Nat, i = n := ⟨i.toNat, by omega⟩
      refine ⟨_, _, _, fun h => ?_, readFB l n (by omega) htl, readF_good l n htb htl (by omega)⟩
      obtain ⟨q1, q2, q3⟩ := readF_ok (by omega) h
      exact ⟨q1, by omega, by omega⟩
    · exact ⟨[], 0, 1, fun h => (by cases h), ⟨Nat.zero_le _, fun o ho => by cases ho⟩, readF_bad l i htb.1 hi⟩
  obtain ⟨y, yi, ye, hy1, hy2, hy3⟩ : ∃ (y : Pat) (yi ye : Int), (ye = 0 → patOk y = true ∧ i < yi ∧ yi ≤ l.length) ∧ (y.n.length ≤ 1000000 ∧ (y.t.n.length ≤ 1000000 ∧ y.t.a.length ≤ 1000000 ∧ ∀ t ∈ y.t.a, t.v.length ≤ 1000000 ∧ t.x.s.length ≤ 1000000) ∧ y.l.length ≤ 1000000 ∧ ∀ o ∈ y.l, nodB o) ∧ Good Tryz.prog 39 [.sl 4 (toksV l), .int .i64 i] [] [.agg y.v, .int .i64 yi, .int .i64 ye] [] := by
    by_cases hi : 0 ≤ i ∧ i ≤ l.length
    · obtain ⟨n, rfl⟩ : ∃ n : Nat, i = n := ⟨i.toNat, by omega⟩
      refine ⟨_, _, _, fun h => ?_, readPB l n (by omega) htl, readP_good l n htb htl (by omega)⟩
      obtain ⟨q1, q2, q3⟩ := readP_ok (by omega) h
      exact ⟨q1, by omega, by omega⟩
    · exact ⟨zeroP, 0, 1, fun h => (by cases h), ⟨Nat.zero_le _, ⟨Nat.zero_le _, Nat.zero_le _, fun t ht => (by cases ht)⟩, Nat.zero_le _, fun o ho => (by cases ho)⟩, readP_bad l i htb.1 hi⟩
  refine seq_of hP [0, 1, 2, 3, 4, 5, 8, 9, 10, 11, 12, 13, 14, 16, 17, 18, 19, 20, 21, 23, 24, 25, 26, 27, 28, 29, 31, 32, 33, 34, 44, 69, 78, 100, 116, 181] [69, 78] [2, 3, 4, 5] [68, 69] [] (fun st => st = ⟨[(2, .sl 4 (toksV l)), (3, .int .i64 i), (4, .ptr 68 0 0), (5, .ptr 69 0 0)], [(68, .box 0 a.v), (69, .box 0 b.v)]⟩) ?_ ?_
  · conv => whnf
    refine call0 (hz3) ?_
    conv => whnf
    refine branch_of (fun h => ?_) (fun h => ?_)
    · have h := of_decide_eq_true h
      obtain ⟨q1, q2, q3⟩ := hz1 h
      conv => whnf
      refine call0 (fcheck_good z hz2.1 hz2.2) ?_
      rw [q1, if_pos rfl]
      conv => whnf
      refine branch_of (fun h2 => ?_) (fun h2 => ?_)
      · exact absurd (of_decide_eq_true h2) (by omega)
      conv => whnf
      refine branch_of (fun h3 => ?_) (fun h3 => ?_)
      · have h3 := of_decide_eq_true h3
        rw [List.length_map] at h3; omega
      conv => whnf
    · conv => whnf
  rintro st rfl
  clear hz3
  refine seq_of hP [0, 1, 2, 3, 4, 5, 8, 9, 10, 11, 12, 13, 14, 16, 17, 18, 19, 20, 21, 23, 24, 25, 26, 27, 28, 29, 31, 32, 33, 34, 44, 69, 78, 100, 116, 181] [69, 78] [4, 5] [68, 69] [] (fun st => st = ⟨[(4, .ptr 68 0 0), (5, .ptr 69 0 0)], [(68, .box 0 a.v), (69, .box 0 b.v)]⟩) ?_ ?_
  · conv => whnf
    refine call0 (hy3) ?_
    conv => whnf
    refine branch_of (fun h => ?_) (fun h => ?_)
    · have h := of_decide_eq_true h
      obtain ⟨q1, q2, q3⟩ := hy1 h
      obtain ⟨y1, y2, y3, y4⟩ := hy2
      have hE : patE y = 0 ∨ patE y = 2 := by unfold patE; rw [q1, if_pos rfl]; split <;> simp
      conv => whnf
      refine call0 (fpattern_good y y1 y2 y3 y4) ?_
      have fin : ∀ (e : Int), e = 0 ∨ e = 2 → e = e := fun _ _ => rfl
      generalize patX y = yx
      rcases hE with e | e
      · rw [e]
        conv => whnf
        refine branch_of (fun h2 => ?_) (fun h2 => ?_)
        · exact absurd (of_decide_eq_true h2) (by omega)
        conv => whnf
        refine branch_of (fun h3 => ?_) (fun h3 => ?_)
        · have h3 := of_decide_eq_true h3
          rw [List.length_map] at h3; omega
        conv => whnf
      · rw [e]
        conv => whnf
        refine branch_of (fun h2 => ?_) (fun h2 => ?_)
        · exact absurd (of_decide_eq_true h2) (by omega)
        conv => whnf
        refine branch_of (fun h3 => ?_) (fun h3 => ?_)
        · have h3 := of_decide_eq_true h3
          rw [List.length_map] at h3; omega
        conv => whnf
    · conv => whnf
  rintro st rfl
  clear hy3
  conv => whnf
  refine call0 (fpattern_good a a1 a2 a3 a4) ?_
  conv => whnf
  refine call0 (fpattern_good b b1 b2 b3 b4) ?_
  rcases patE_cases a with ⟨c1, c2, c3, c4⟩ | ⟨c1, c2, _⟩
  · rcases patE_cases b with ⟨d1, d2, d3, d4⟩ | ⟨d1, d2, _⟩
    · have hpa := parse_pat c2
      have hba := tokB_R (patT a) c3
      have hla := toks_le (patT a) c3
      have hra := readP_good (toksR (patT a)) 0 hba hla (Nat.zero_le _)
      rw [hpa.2] at hra
      have hk := (patOk_all c2).2.2
      have hfl : (fmlT a.l).length ≤ 20000 := Nat.le_trans (patT_len c2).2.1 c3
      have hfE : fmlE a.l = 0 := by unfold fmlE; rw [hk, if_pos rfl, if_neg (by omega)]
      have hfX : fmlX a.l = fmlT a.l := by unfold fmlX; rw [if_pos hfE]
      have hpf := parse_fml hk
      have hbf := tokB_R (fmlT a.l) hfl
      have hlf := toks_le (fmlT a.l) hfl
      have hrf := readF_good (toksR (fmlT a.l)) 0 hbf hlf (Nat.zero_le _)
      rw [hpf.2] at hrf
      have hinj := patT_inj c2 d2
      rw [c1, c4, d1, d4]
      conv => whnf
      refine call0 (tokens_good (patT a) c3) ?_
      have hea := hpa.1
      generalize errR (patT a) = ea at *
      generalize posR (patT a) = za
      clear hpa
      generalize toksR (patT a) = la at *
      conv => whnf
      refine call0 (hra) ?_
      conv => whnf
      refine call0 (ftext_good a.l a3 a4) ?_
      rw [hfX]
      generalize fmlE a.l = ef at *
      conv => whnf
      refine call0 (tokens_good (fmlT a.l) hfl) ?_
      have hef := hpf.1
      generalize errR (fmlT a.l) = eg at *
      generalize posR (fmlT a.l) = zf
      clear hpf
      generalize toksR (fmlT a.l) = lf at *
      conv => whnf
      refine call0 (hrf) ?_
      conv => whnf
      refine branch_of (fun h => ?_) (fun h => ?_)
      · rw [Bool.not_eq_true'] at h; exact absurd hea (of_decide_eq_false h)
      conv => whnf
      refine branch_of (fun h => ?_) (fun h => ?_)
      · rw [Bool.not_eq_true'] at h; exact absurd hfE (of_decide_eq_false h)
      conv => whnf
      refine branch_of (fun h => ?_) (fun h => ?_)
      · rw [Bool.not_eq_true'] at h; exact absurd hef (of_decide_eq_false h)
      conv => whnf
      refine branch_of (fun h => ?_) (fun h => ?_)
      · conv => whnf
        refine call0 (keepPat_good a a a2.2.1 a3 a4) ?_
        rw [decide_eq_true rfl]
        conv => whnf
        refine branch_of (fun h => ?_) (fun h => ?_)
        · conv => whnf
          refine call0 (keepNodes_good a.l a.l a3 a4) ?_
          rw [decide_eq_true rfl]
          conv => whnf
          refine call0 (keepPat_good a b a2.2.1 a3 a4) ?_
          rw [hinj]
          generalize decide (a = b) = q
          cases q with
          | true =>
            conv => whnf
            refine call0 (wakes12_good) ?_
            conv => whnf
            exact fin0 rfl trivial
          | false =>
            conv => whnf
            refine call0 (wakes12_good) ?_
            conv => whnf
            exact fin0 rfl trivial
        · have h := of_decide_eq_false h
          rw [List.length_map] at h; exact absurd rfl h
      · have h := of_decide_eq_false h
        rw [List.length_map] at h; exact absurd rfl h
    · rw [c1, c4, d2]
      generalize patE b = eb at *
      conv => whnf
      refine branch_of (fun h => ?_) (fun h => ?_)
      · conv => whnf
        refine branch_of (fun h2 => ?_) (fun h2 => ?_)
        · exact absurd (of_decide_eq_true h2) d1
        conv => whnf
        refine call0 (wakes12_good) ?_
        conv => whnf
        exact fin0 rfl trivial
      · rw [Bool.not_eq_false'] at h; exact absurd (of_decide_eq_true h) d1
  · rw [c2]
    generalize patE a = ea at *
    conv => whnf
    refine branch_of (fun h => ?_) (fun h => ?_)
    · conv => whnf
      refine branch_of (fun h2 => ?_) (fun h2 => ?_)
      · exact absurd (of_decide_eq_true h2) c1
      rcases patE_cases b with ⟨d1, d2, d3, d4⟩ | ⟨d1, d2, _⟩
      · rw [d1]
        conv => whnf
        refine call0 (wakes12_good) ?_
        conv => whnf
        exact fin0 rfl trivial
      · rw [d2]
        generalize patE b = eb at *
        conv => whnf
        refine branch_of (fun h3 => ?_) (fun h3 => ?_)
        · exact absurd (of_decide_eq_true h3) d1
        conv => whnf
        refine call0 (wakes12_good) ?_
        conv => whnf
        exact fin0 rfl trivial
    · rw [Bool.not_eq_false'] at h; exact absurd (of_decide_eq_true h) c1
end Go.PV
namespace Go.PV
open Go Go.RowKit
/-! an argument that can be read as data, as plain data -/
def cel (w : World) (b o : Nat) (u : Value) : Prop := w.cell? ⟨b, o, none⟩ = some u
def CellsW (w : World) (l : List V) (cs : List Value) : Prop := cs.length = l.length ∧ ∀ (j : Nat) (p : V), l[j]? = some p → ∃ u, cs[j]? = some u ∧ Sh (cel w) p u
theorem CellsW.one {w : World} {p : V} {u : Value} (h : Sh (cel w) p u) : CellsW w [p] [u] := ⟨rfl, fun j q hj => by
  cases j with
  | zero => simp at hj; subst hj; exact ⟨u, rfl, h⟩
  | succ j => simp at hj⟩
theorem CellsW.append {w : World} {l m : List V} {cs ds : List Value} (h : CellsW w l cs) (k : CellsW w m ds) : CellsW w (l ++ m) (cs ++ ds) := ⟨by simp [h.1, k.1], fun j p hj => by
  rcases Nat.lt_or_ge j l.length with hl | hl
  · rw [List.getElem?_append_left hl] at hj
    rw [List.getElem?_append_left (by rw [h.1]; exact hl)]; exact h.2 j p hj
  · rw [List.getElem?_append_right hl] at hj
    rw [List.getElem?_append_right (by rw [h.1]; exact hl), h.1]; exact k.2 _ p hj⟩
structure OpensV {α : Type} (n : Nat) (c : α → List V) (P : Program) (t : TypeId) (ok : α → Prop) : Prop where
  cells : P.cellsOf t = n
  len : ∀ v, (c v).length = n
  opens : ∀ {H : Type} {enc : TypeId × Value → H} {w : World} {base : Nat} {spare : Nat → Bool} {held : Bool} {fuel : Nat} {cs : List Value} {x : DataW H × List MemPlace},
    DataW.trod enc P w base spare held fuel t cs = some x → ∃ v, CellsW w (c v) cs ∧ ok v
section
variable {P : Program} {t : TypeId}
theorem OpensV.mono {α : Type} {n : Nat} {c : α → List V} {ok ok' : α → Prop} (h : OpensV n c P t ok) (hm : ∀ v, ok v → ok' v) : OpensV n c P t ok' :=
  ⟨h.cells, h.len, fun hx => by obtain ⟨v, h1, h2⟩ := h.opens hx; exact ⟨v, h1, hm v h2⟩⟩
theorem OpensV.int {k : IntKind} (hu : P.underlying t = some (.int k)) (hc : P.cellsOf t = 1) : OpensV 1 (fun n => [.int k n]) P t (fun n => (Lit.int k n).wf = true) :=
  ⟨hc, fun _ => rfl, fun hx => by obtain ⟨m, rfl, rfl, hw⟩ := DataW.trod_int hu hx; exact ⟨m, .one (.int _ _), hw⟩⟩
theorem OpensV.string (hu : P.underlying t = some .string) (hc : P.cellsOf t = 1) : OpensV 1 (fun s : List UInt8 => [.str s]) P t (fun s => s.length ≤ maxLen) :=
  ⟨hc, fun _ => rfl, fun hx => by obtain ⟨s, rfl, _, hw⟩ := DataW.trod_string hu hx; exact ⟨s.data.toList, .one (.str _), hw⟩⟩
theorem OpensV.bool (hu : P.underlying t = some .bool) (hc : P.cellsOf t = 1) : OpensV 1 (fun b => [.bool b]) P t (fun _ => True) :=
  ⟨hc, fun _ => rfl, fun hx => by obtain ⟨b, rfl, _⟩ := DataW.trod_bool hu hx; exact ⟨b, .one (.bool _), trivial⟩⟩
theorem OpensV.iso {α β : Type} {n : Nat} {c : α → List V} {ok : α → Prop} {f : β → α} (g : α → β) (hg : ∀ a, f (g a) = a) (h : OpensV n c P t ok) : OpensV n (fun b => c (f b)) P t (fun b => ok (f b)) :=
  ⟨h.cells, fun b => h.len (f b), fun hx => by
    obtain ⟨v, h1, h2⟩ := h.opens hx
    exact ⟨g v, by rw [hg]; exact h1, by rw [hg]; exact h2⟩⟩
/-- fields that lie side by side from off on -/
structure OpensVs {α : Type} (n : Nat) (c : α → List V) (P : Program) (fs : List Field) (off : Nat) (ok : α → Prop) : Prop where
  len : ∀ v, (c v).length = n
  opens : ∀ {H : Type} {enc : TypeId × Value → H} {w : World} {base : Nat} {spare : Nat → Bool} {held : Bool} {fuel : Nat} {cs : List Value},
    off + n = cs.length → (∀ (i : Nat) (f : Field), fs[i]? = some f → ∃ x, DataW.trod enc P w base spare held fuel f.type ((cs.drop f.offset).take (P.cellsOf f.type)) = some x) → ∃ v, CellsW w (c v) (cs.drop off) ∧ ok v
theorem OpensVs.one {α : Type} {n : Nat} {c : α → List V} {f : Field} {off : Nat} {ok : α → Prop} (ho : f.offset = off) (h : OpensV n c P f.type ok) : OpensVs n c P [f] off ok := by
  refine ⟨h.len, ?_⟩
  intro H enc w base spare held fuel cs hl hx
  obtain ⟨x, hx⟩ := hx 0 f rfl
  rw [ho, h.cells, List.take_of_length_le (by simp; omega)] at hx
  exact h.opens hx
theorem OpensVs.cons {α β : Type} {n m : Nat} {c : α → List V} {d : β → List V} {f : Field} {fs : List Field} {off : Nat} {ok : α → Prop} {ok' : β → Prop} (ho : f.offset = off) (h : OpensV n c P f.type ok) (h' : OpensVs m d P fs (off + n) ok') :
    OpensVs (n + m) (fun v : α × β => c v.1 ++ d v.2) P (f :: fs) off (fun v => ok v.1 ∧ ok' v.2) := by
  refine ⟨fun v => by rw [List.length_append, h.len, h'.len], ?_⟩
  intro H enc w base spare held fuel cs hl hx
  obtain ⟨x, hx0⟩ := hx 0 f rfl
  rw [ho, h.cells] at hx0
  obtain ⟨v, hv, ov⟩ := h.opens hx0
  obtain ⟨u, hu, ou⟩ := h'.opens (cs := cs) (by omega) (fun i g hg => hx (i + 1) g hg)
  refine ⟨(v, u), ?_, ov, ou⟩
  have := hv.append hu
  rwa [← List.drop_drop, List.take_append_drop] at this
theorem OpensV.struct {α : Type} {n : Nat} {c : α → List V} {fs : Array Field} {ok : α → Prop} (hu : P.underlying t = some (.struct fs)) (hc : P.cellsOf t = n) (h : OpensVs n c P fs.toList 0 ok) : OpensV n c P t ok := by
  refine ⟨hc, h.len, ?_⟩
  intro H enc w base spare held fuel cs x hx
  obtain ⟨xs, n, rfl, _, hl, hxl, hf⟩ := DataW.trod_struct hu hx
  have := h.opens (cs := cs) (enc := enc) (w := w) (base := base) (spare := spare) (held := held) (fuel := n) (by omega) (by
    intro i f hi
    have hi' : fs[i]? = some f := by simpa using hi
    have hlt : i < xs.length := by
      rw [hxl]
      exact (Array.getElem?_eq_some_iff.1 hi').1
    exact ⟨xs[i], by rw [hf i f hi', List.getElem?_eq_getElem hlt]⟩)
  simpa using this
theorem list_of {α : Type} {Q : Nat → α → Prop} : ∀ n : Nat, (∀ i, i < n → ∃ v, Q i v) → ∃ l : List α, l.length = n ∧ ∀ i v, l[i]? = some v → Q i v := by
  intro n
  induction n with
  | zero => intro _; exact ⟨[], rfl, fun i v h => by simp at h⟩
  | succ n ih =>
    intro h
    obtain ⟨l, hl, hq⟩ := ih (fun i hi => h i (by omega))
    obtain ⟨v, hv⟩ := h n (by omega)
    refine ⟨l ++ [v], by simp [hl], ?_⟩
    intro i u hu
    by_cases hi : i < l.length
    · rw [List.getElem?_append_left hi] at hu
      exact hq i u hu
    · rw [List.getElem?_append_right (by omega)] at hu
      have h0 : i - l.length = 0 := by
        by_cases h0 : i - l.length = 0
        · exact h0
        · rw [List.getElem?_eq_none (by simp; omega)] at hu; cases hu
      rw [h0] at hu
      simp at hu
      subst hu
      have : i = n := by omega
      subst this
      exact hv
theorem cell_spot {w : World} {a : Addr} {u : Value} (h : w.cell? a = some u) : a.spot = none := by
  unfold World.cell? at h
  split at h
  · cases hs : a.spot with
    | none => rfl
    | some s => rw [hs] at h; simp at h
  · cases h
/-- a slice that is read as data -/
theorem OpensV.row {α : Type} {n : Nat} {c : α → List V} {e : TypeId} {ok : α → Prop} (h : OpensV n c P e ok) (h0 : 0 < n) (hu : P.underlying t = some (.slice e))
    {H : Type} {enc : TypeId × Value → H} {w : World} {base : Nat} {spare : Nat → Bool} {held : Bool} {fuel : Nat} {cs : List Value} {x : DataW H × List MemPlace}
    (hx : DataW.trod enc P w base spare held fuel t cs = some x) : ∃ (l : List α) (A : Option Addr) (cap : Nat), cs = [.slice A l.length cap] ∧ Sh (cel w) (.sl n (l.map c)) (.slice A l.length cap) ∧ l.length ≤ cap ∧ cap ≤ maxLen ∧ ∀ v ∈ l, ok v := by
  rcases DataW.trod_slice hu hx with ⟨hcs, _⟩ | ⟨a, len, cap, elems, rest, m, rfl, hcs, _, hb, hl, hm, hlen, hel, _⟩
  · exact ⟨[], none, 0, hcs, .sl0 _ _ _, Nat.le_refl _, by unfold maxLen; omega, fun v hv => by simp at hv⟩
  · obtain ⟨l, hll, hq⟩ := list_of (Q := fun i v => ∃ cs, w.cells? base (a.add (i * P.cellsOf e)) (P.cellsOf e) = some cs ∧ CellsW w (c v) cs ∧ ok v) len (by
      intro i hi
      have h1 := hel i hi
      rw [List.getElem?_eq_getElem (by omega), Option.bind_eq_some_iff] at h1
      obtain ⟨cs, h2, h3⟩ := h1
      obtain ⟨v, h4, h5⟩ := h.opens h3
      exact ⟨v, cs, h2, h4, h5⟩)
    have hok : ∀ v ∈ l, ok v := by
      intro v hv
      obtain ⟨i, hi⟩ := List.getElem?_of_mem hv
      obtain ⟨_, _, _, h5⟩ := hq i v hi
      exact h5
    refine ⟨l, some a, cap, by rw [hll]; exact hcs, ?_, by omega, hm, hok⟩
    by_cases hz : l = []
    · subst hz; exact .sl0 _ _ _
    have at_ : ∀ (i : Nat) (v : α) (j : Nat) (p : V), l[i]? = some v → (c v)[j]? = some p → ∃ u, w.cell? ((a.add (i * n)).add j) = some u ∧ Sh (cel w) p u := by
      intro i v j p hi hj
      obtain ⟨cs, h2, h4, _⟩ := hq i v hi
      obtain ⟨_, h6, h7⟩ := World.cells?_some h2
      obtain ⟨u, h8, h9⟩ := h4.2 j p hj
      have hlt : j < P.cellsOf e := by rw [← h6]; exact (List.getElem?_eq_some_iff.1 h8).1
      have h10 := h7 j hlt
      rw [h.cells, h8] at h10
      exact ⟨u, h10, h9⟩
    have hsp : a.spot = none := by
      obtain ⟨v, r, rfl⟩ := List.exists_cons_of_ne_nil hz
      have h1 : 0 < (c v).length := by rw [h.len]; exact h0
      obtain ⟨u, h2, _⟩ := at_ 0 v 0 _ rfl (List.getElem?_eq_getElem h1)
      have := cell_spot h2
      simpa [Addr.add] using this
    obtain ⟨b, off, sp⟩ := a
    simp only at hsp
    subst hsp
    have hadd : ∀ i j : Nat, ((⟨b, off, none⟩ : Addr).add (i * n)).add j = ⟨b, off + i * n + j, none⟩ := fun i j => by
      rw [Addr.add_none, Addr.add_none]
    have hml : (l.map c).length = l.length := List.length_map _
    rw [← hml]
    refine .sl n (l.map c) b off cap (fun i j => (w.cell? ⟨b, off + i * n + j, none⟩).getD undef) h0 (fun i x hx => ?_) (by rw [hml]; omega) (fun i x j p hx hj => ?_) (fun i x j p hx hj => ?_)
    · rw [List.getElem?_map, Option.map_eq_some_iff] at hx
      obtain ⟨v, _, rfl⟩ := hx; exact h.len v
    · rw [List.getElem?_map, Option.map_eq_some_iff] at hx
      obtain ⟨v, hi, rfl⟩ := hx
      obtain ⟨u, h2, _⟩ := at_ i v j p hi hj
      rw [hadd] at h2
      show w.cell? _ = _
      rw [h2]; rfl
    · rw [List.getElem?_map, Option.map_eq_some_iff] at hx
      obtain ⟨v, hi, rfl⟩ := hx
      obtain ⟨u, h2, h3⟩ := at_ i v j p hi hj
      rw [hadd] at h2
      rw [h2]; exact h3
theorem OpensV.slice {α : Type} {n : Nat} {c : α → List V} {e : TypeId} {ok : α → Prop} (h : OpensV n c P e ok) (h0 : 0 < n) (hu : P.underlying t = some (.slice e)) (hc : P.cellsOf t = 1) : OpensV 1 (fun l : List α => [.sl n (l.map c)]) P t (fun l => l.length ≤ maxLen ∧ ∀ v ∈ l, ok v) :=
  ⟨hc, fun _ => rfl, fun hx => by
    obtain ⟨l, A, cap, rfl, h2, h3, h4, h5⟩ := h.row h0 hu hx
    exact ⟨l, .one h2, Nat.le_trans h3 h4, h5⟩⟩
/-- an argument that is a slice -/
theorem OpensV.arg {α : Type} {n : Nat} {c : α → List V} {e : TypeId} {ok : α → Prop} (h : OpensV n c P e ok) (h0 : 0 < n) (hu : P.underlying t = some (.slice e))
    {H : Type} {enc : TypeId × Value → H} {w : World} {r : Reach} {base b0 : Nat} {spare : Nat → Bool} {held : Bool} {v : Value} {x : DataW H} {ps : List MemPlace}
    (hv : Value.okWide P w r b0 t v) (hx : DataW.Trod enc P w base spare held t v x ps) : ∃ l : List α, Sh (cel w) (.sl n (l.map c)) v ∧ l.length ≤ maxLen ∧ ∀ v ∈ l, ok v := by
  obtain ⟨a, len, cap, rfl⟩ := Go.WideShapes.okWide_slice hu hv
  obtain ⟨fuel, hf⟩ := hx
  have hf' : DataW.trod enc P w base spare held fuel t [.slice a len cap] = some (x, ps) := hf
  obtain ⟨l, A, cp, h1, h2, h3, h4, h5⟩ := h.row h0 hu hf'
  cases h1
  exact ⟨l, h2, Nat.le_trans h3 h4, h5⟩
/-- an argument that is a struct -/
theorem OpensV.agg {α : Type} {n : Nat} {c : α → List V} {ok : α → Prop} (h : OpensV n c P t ok) {fs : Array Field} (hu : P.underlying t = some (.struct fs))
    {H : Type} {enc : TypeId × Value → H} {w : World} {r : Reach} {base b0 : Nat} {spare : Nat → Bool} {held : Bool} {v : Value} {x : DataW H} {ps : List MemPlace}
    (hv : Value.okWide P w r b0 t v) (hx : DataW.Trod enc P w base spare held t v x ps) : ∃ u cs, v = .agg ⟨cs⟩ ∧ CellsW w (c u) cs ∧ ok u := by
  obtain ⟨cs, rfl, _⟩ := Go.WideShapes.okWide_struct hu hv
  obtain ⟨fuel, hf⟩ := hx
  obtain ⟨u, h1, h2⟩ := h.opens hf
  exact ⟨u, cs.toList, rfl, h1, h2⟩
end
/-- what nothing owns -/
def G0 : Gh := { own := fun _ => ⟨none, none⟩, blk := fun _ => 0, cap := fun _ => 0, isnil := fun _ => false }
theorem sh0 {w : World} {p : V} {v : Value} (h : Sh (cel w) p v) : Sh (stab G0 w) p v := h.mono fun b o c hc => ⟨fun l hl => (by cases hl), hc⟩
theorem ra0 {w : World} {O : Tb} {p : V} {v : Value} (h : Sh (cel w) p v) : RA G0 w O p v := .cell _ _ (.sh _ _ (sh0 h))
theorem raAgg {w : World} {O : Tb} {l : List V} {cs : List Value} (h : CellsW w l cs) : RA G0 w O (.agg l) (.agg ⟨cs⟩) :=
  .agg _ _ ⟨by simpa using h.1, fun j p hj => by obtain ⟨u, h1, h2⟩ := h.2 j p hj; exact ⟨u, by simpa using h1, .sh _ _ (sh0 h2)⟩⟩
/-- pair by pair -/
inductive Each (R : V → Value → Prop) : List V → List Value → Prop
  | nil : Each R [] []
  | cons {p v ps vs} (h : R p v) (k : Each R ps vs) : Each R (p :: ps) (v :: vs)
theorem cellsOf {R : V → Value → Prop} : ∀ {ps : List V} {vs : List Value}, Each R ps vs → Cells R ps ⟨vs⟩
  | [], [], _ => ⟨rfl, fun j p hj => by simp at hj⟩
  | p :: ps, v :: vs, .cons h1 h2 => by
    have ih := cellsOf h2
    refine ⟨by have := ih.1; simp at this ⊢; omega, fun j q hj => ?_⟩
    cases j with
    | zero => simp at hj; subst hj; exact ⟨v, rfl, h1⟩
    | succ j => obtain ⟨c, h3, h4⟩ := ih.2 j q (by simpa using hj); exact ⟨c, by simpa using h3, h4⟩
/-- a law's call -/
theorem law_calls {P : Program} [Env P] {f : FuncId} {args : List V} {vs : List Value} {w : World} (h : Good P f args [] [.bool true] []) (hc : Each (RA G0 w (tbl [])) args vs) (hn : Env.ng P ≤ w.heap.size) (hz : Env.Z P w) :
    Calls P f ⟨vs⟩ w fun e w' => e = .returned (.bool true) ∧ Below w.heap.size w w' :=
  (h.run ⟨vs⟩ w G0 (cellsOf hc) (fun k o hk => by simp at hk) (fun k hk => ⟨by omega, rfl⟩) hz).mono fun e w' hh => by
    obtain ⟨rv, G', h1, h2, _, h3⟩ := hh
    refine ⟨?_, ⟨h3.sys, h3.tape, h3.output, h3.size, fun k hk => (h3.im k hk rfl).2⟩⟩
    rw [h1]
    cases (show RA G' w' (tbl []) (.bool true) rv from h2).bool_eq
    rfl
end Go.PV
namespace Go.PV
open Go Go.RowKit Go.Proofs
/-! what is known of arguments of these types -/
def ok9 : List UInt8 → Prop := fun s : List UInt8 => s.length ≤ maxLen
abbrev c9 : List UInt8 → List V := fun s => [.str s]
theorem o9 : OpensV 1 c9 Tryz.prog 9 ok9 := OpensV.string Tryz.underlying9 (by kernel_rfl)
def ok3 : Int → Prop := fun n : Int => (Lit.int .i64 n).wf = true
abbrev c3 : Int → List V := fun n => [.int .i64 n]
theorem o3 : OpensV 1 c3 Tryz.prog 3 ok3 := OpensV.int Tryz.underlying3 (by kernel_rfl)
theorem t129 : OpensV 3 (fun v : Int × Int × List UInt8 => c3 v.1 ++ (c3 v.2.1 ++ (c9 v.2.2))) Tryz.prog 129 (fun v => ok3 v.1 ∧ ok3 v.2.1 ∧ ok9 v.2.2) := by
  refine OpensV.struct Tryz.underlying129 (by kernel_rfl) ?_
  refine OpensVs.cons (n := 1) (m := 2) (c := c3) (d := fun w : Int × List UInt8 => c3 w.1 ++ (c9 w.2)) (ok := ok3) (ok' := fun w : Int × List UInt8 => ok3 w.1 ∧ ok9 w.2) rfl o3 ?_
  refine OpensVs.cons (n := 1) (m := 1) (c := c3) (d := fun w : List UInt8 => c9 w) (ok := ok3) (ok' := fun w : List UInt8 => ok9 w) rfl o3 ?_
  exact OpensVs.one (c := c9) (ok := ok9) rfl o9
def ok129 : Val → Prop := fun x => let v := ((fun v => (v.k, v.n, v.s) : Val → (Int × Int × List UInt8))) x; ok3 v.1 ∧ ok3 v.2.1 ∧ ok9 v.2.2
abbrev c129 : Val → List V := fun x => let v := ((fun v => (v.k, v.n, v.s) : Val → (Int × Int × List UInt8))) x; c3 v.1 ++ (c3 v.2.1 ++ (c9 v.2.2))
theorem o129 : OpensV 3 c129 Tryz.prog 129 ok129 := OpensV.iso (f := (fun v => (v.k, v.n, v.s) : Val → (Int × Int × List UInt8))) ((fun a => ⟨a.1, a.2.1, a.2.2⟩ : (Int × Int × List UInt8) → Val)) (fun _ => rfl) t129
theorem t131 : OpensV 4 (fun v : List UInt8 × Val => c9 v.1 ++ (c129 v.2)) Tryz.prog 131 (fun v => ok9 v.1 ∧ ok129 v.2) := by
  refine OpensV.struct Tryz.underlying131 (by kernel_rfl) ?_
  refine OpensVs.cons (n := 1) (m := 3) (c := c9) (d := fun w : Val => c129 w) (ok := ok9) (ok' := fun w : Val => ok129 w) rfl o9 ?_
  exact OpensVs.one (c := c129) (ok := ok129) rfl o129
def ok131 : Trm → Prop := fun x => let v := ((fun v => (v.v, v.x) : Trm → (List UInt8 × Val))) x; ok9 v.1 ∧ ok129 v.2
abbrev c131 : Trm → List V := fun x => let v := ((fun v => (v.v, v.x) : Trm → (List UInt8 × Val))) x; c9 v.1 ++ (c129 v.2)
theorem o131 : OpensV 4 c131 Tryz.prog 131 ok131 := OpensV.iso (f := (fun v => (v.v, v.x) : Trm → (List UInt8 × Val))) ((fun a => ⟨a.1, a.2⟩ : (List UInt8 × Val) → Trm)) (fun _ => rfl) t131
def ok46 : List (Trm) → Prop := fun l => l.length ≤ maxLen ∧ ∀ v ∈ l, ok131 v
abbrev c46 : List (Trm) → List V := fun l => [.sl 4 (l.map c131)]
theorem o46 : OpensV 1 c46 Tryz.prog 46 ok46 := OpensV.slice o131 (by decide) Tryz.underlying46 (by kernel_rfl)
theorem t48 : OpensV 2 (fun v : List UInt8 × List (Trm) => c9 v.1 ++ (c46 v.2)) Tryz.prog 48 (fun v => ok9 v.1 ∧ ok46 v.2) := by
  refine OpensV.struct Tryz.underlying48 (by kernel_rfl) ?_
  refine OpensVs.cons (n := 1) (m := 1) (c := c9) (d := fun w : List (Trm) => c46 w) (ok := ok9) (ok' := fun w : List (Trm) => ok46 w) rfl o9 ?_
  exact OpensVs.one (c := c46) (ok := ok46) rfl o46
def ok48 : Atm → Prop := fun x => let v := ((fun v => (v.n, v.a) : Atm → (List UInt8 × List (Trm)))) x; ok9 v.1 ∧ ok46 v.2
abbrev c48 : Atm → List V := fun x => let v := ((fun v => (v.n, v.a) : Atm → (List UInt8 × List (Trm)))) x; c9 v.1 ++ (c46 v.2)
theorem o48 : OpensV 2 c48 Tryz.prog 48 ok48 := OpensV.iso (f := (fun v => (v.n, v.a) : Atm → (List UInt8 × List (Trm)))) ((fun a => ⟨a.1, a.2⟩ : (List UInt8 × List (Trm)) → Atm)) (fun _ => rfl) t48
theorem t50 : OpensV 5 (fun v : Int × Atm × Int × Int => c3 v.1 ++ (c48 v.2.1 ++ (c3 v.2.2.1 ++ (c3 v.2.2.2)))) Tryz.prog 50 (fun v => ok3 v.1 ∧ ok48 v.2.1 ∧ ok3 v.2.2.1 ∧ ok3 v.2.2.2) := by
  refine OpensV.struct Tryz.underlying50 (by kernel_rfl) ?_
  refine OpensVs.cons (n := 1) (m := 4) (c := c3) (d := fun w : Atm × Int × Int => c48 w.1 ++ (c3 w.2.1 ++ (c3 w.2.2))) (ok := ok3) (ok' := fun w : Atm × Int × Int => ok48 w.1 ∧ ok3 w.2.1 ∧ ok3 w.2.2) rfl o3 ?_
  refine OpensVs.cons (n := 2) (m := 2) (c := c48) (d := fun w : Int × Int => c3 w.1 ++ (c3 w.2)) (ok := ok48) (ok' := fun w : Int × Int => ok3 w.1 ∧ ok3 w.2) rfl o48 ?_
  refine OpensVs.cons (n := 1) (m := 1) (c := c3) (d := fun w : Int => c3 w) (ok := ok3) (ok' := fun w : Int => ok3 w) rfl o3 ?_
  exact OpensVs.one (c := c3) (ok := ok3) rfl o3
def ok50 : Nod → Prop := fun x => let v := ((fun v => (v.k, v.a, v.x, v.y) : Nod → (Int × Atm × Int × Int))) x; ok3 v.1 ∧ ok48 v.2.1 ∧ ok3 v.2.2.1 ∧ ok3 v.2.2.2
abbrev c50 : Nod → List V := fun x => let v := ((fun v => (v.k, v.a, v.x, v.y) : Nod → (Int × Atm × Int × Int))) x; c3 v.1 ++ (c48 v.2.1 ++ (c3 v.2.2.1 ++ (c3 v.2.2.2)))
theorem o50 : OpensV 5 c50 Tryz.prog 50 ok50 := OpensV.iso (f := (fun v => (v.k, v.a, v.x, v.y) : Nod → (Int × Atm × Int × Int))) ((fun a => ⟨a.1, a.2.1, a.2.2.1, a.2.2.2⟩ : (Int × Atm × Int × Int) → Nod)) (fun _ => rfl) t50
def ok42 : List (Nod) → Prop := fun l => l.length ≤ maxLen ∧ ∀ v ∈ l, ok50 v
abbrev c42 : List (Nod) → List V := fun l => [.sl 5 (l.map c50)]
theorem o42 : OpensV 1 c42 Tryz.prog 42 ok42 := OpensV.slice o50 (by decide) Tryz.underlying42 (by kernel_rfl)
theorem t59 : OpensV 4 (fun v : List UInt8 × Atm × List (Nod) => c9 v.1 ++ (c48 v.2.1 ++ (c42 v.2.2))) Tryz.prog 59 (fun v => ok9 v.1 ∧ ok48 v.2.1 ∧ ok42 v.2.2) := by
  refine OpensV.struct Tryz.underlying59 (by kernel_rfl) ?_
  refine OpensVs.cons (n := 1) (m := 3) (c := c9) (d := fun w : Atm × List (Nod) => c48 w.1 ++ (c42 w.2)) (ok := ok9) (ok' := fun w : Atm × List (Nod) => ok48 w.1 ∧ ok42 w.2) rfl o9 ?_
  refine OpensVs.cons (n := 2) (m := 1) (c := c48) (d := fun w : List (Nod) => c42 w) (ok := ok48) (ok' := fun w : List (Nod) => ok42 w) rfl o48 ?_
  exact OpensVs.one (c := c42) (ok := ok42) rfl o42
def ok59 : Pat → Prop := fun x => let v := ((fun v => (v.n, v.t, v.l) : Pat → (List UInt8 × Atm × List (Nod)))) x; ok9 v.1 ∧ ok48 v.2.1 ∧ ok42 v.2.2
abbrev c59 : Pat → List V := fun x => let v := ((fun v => (v.n, v.t, v.l) : Pat → (List UInt8 × Atm × List (Nod)))) x; c9 v.1 ++ (c48 v.2.1 ++ (c42 v.2.2))
theorem o59 : OpensV 4 c59 Tryz.prog 59 ok59 := OpensV.iso (f := (fun v => (v.n, v.t, v.l) : Pat → (List UInt8 × Atm × List (Nod)))) ((fun a => ⟨a.1, a.2.1, a.2.2⟩ : (List UInt8 × Atm × List (Nod)) → Pat)) (fun _ => rfl) t59
theorem t29 : OpensV 2 (fun v : Int × Int => c3 v.1 ++ (c3 v.2)) Tryz.prog 29 (fun v => ok3 v.1 ∧ ok3 v.2) := by
  refine OpensV.struct Tryz.underlying29 (by kernel_rfl) ?_
  refine OpensVs.cons (n := 1) (m := 1) (c := c3) (d := fun w : Int => c3 w) (ok := ok3) (ok' := fun w : Int => ok3 w) rfl o3 ?_
  exact OpensVs.one (c := c3) (ok := ok3) rfl o3
def ok29 : Int × Int → Prop := fun v => ok3 v.1 ∧ ok3 v.2
abbrev c29 : Int × Int → List V := fun v => c3 v.1 ++ (c3 v.2)
theorem o29 : OpensV 2 c29 Tryz.prog 29 ok29 := t29
theorem t110 : OpensV 4 (fun v : Int × List UInt8 × (Int × Int) => c3 v.1 ++ (c9 v.2.1 ++ (c29 v.2.2))) Tryz.prog 110 (fun v => ok3 v.1 ∧ ok9 v.2.1 ∧ ok29 v.2.2) := by
  refine OpensV.struct Tryz.underlying110 (by kernel_rfl) ?_
  refine OpensVs.cons (n := 1) (m := 3) (c := c3) (d := fun w : List UInt8 × (Int × Int) => c9 w.1 ++ (c29 w.2)) (ok := ok3) (ok' := fun w : List UInt8 × (Int × Int) => ok9 w.1 ∧ ok29 w.2) rfl o3 ?_
  refine OpensVs.cons (n := 1) (m := 2) (c := c9) (d := fun w : (Int × Int) => c29 w) (ok := ok9) (ok' := fun w : (Int × Int) => ok29 w) rfl o9 ?_
  exact OpensVs.one (c := c29) (ok := ok29) rfl o29
def ok110 : Tok → Prop := fun x => let v := ((fun v => (v.k, v.t, v.p) : Tok → (Int × List UInt8 × (Int × Int)))) x; ok3 v.1 ∧ ok9 v.2.1 ∧ ok29 v.2.2
abbrev c110 : Tok → List V := fun x => let v := ((fun v => (v.k, v.t, v.p) : Tok → (Int × List UInt8 × (Int × Int)))) x; c3 v.1 ++ (c9 v.2.1 ++ (c29 v.2.2))
theorem o110 : OpensV 4 c110 Tryz.prog 110 ok110 := OpensV.iso (f := (fun v => (v.k, v.t, v.p) : Tok → (Int × List UInt8 × (Int × Int)))) ((fun a => ⟨a.1, a.2.1, a.2.2⟩ : (Int × List UInt8 × (Int × Int)) → Tok)) (fun _ => rfl) t110
end Go.PV
namespace Go.PV
open Go
/-! a row's closed facts, one by one -/
theorem joined_of {P : Program} {f : FuncId} {fn : Func} {s : ChangeSpec} {c : OpenClaim} (h1 : c.wf (OpenSpec.ofChange s) = true) (h2 : laidOutB P = true) (h3 : mapsRowed P = true) (h4 : namedTie P c.named s.vars = true)
    (h5 : (P.stops == []) = true) (h6 : (P.stopKnobs == []) = true) (h7 : (c.inPlace == P.inPlace f) = true) (h8 : (c.unfollowed == P.unfollowed f) = true) (h9 : (c.recurses == P.recurses f) = true) (h10 : (c.named == P.varsNamed f) = true)
    (h11 : (c.plainKeys == P.plainKeys) = true) (h12 : P.stopsHeard = true) (h13 : P.mayEnter = true) (h14 : (c.lifted == P.liftsFinal) = true) (h15 : (P.make == some c.make) = true)
    (h16 : (fn.params.all (P.readableRec ·) && (c.stops == []) && (c.knobs == []) &&
      (c.maps == (fn.params.toList ++ s.plain.varTypes P).any (P.mapsRec ·)) && (c.ifaces == (fn.params.toList ++ s.plain.varTypes P).any (P.ifacesRec ·)) && (c.mapsOut == P.mapsAmong fn.resultTypes.toList) &&
      (c.loops == (fn.params.toList ++ s.plain.varTypes P).any (P.loopsFrom ·)) && (c.wideKeys == (fn.params.toList ++ s.plain.varTypes P ++ fn.resultTypes.toList).any (P.wideKeysFrom ·)) &&
      s.vars.all (P.varReadable ·) && fn.resultTypes.all (fun t => P.readableRec t && decide (t < P.types.size)) && (c.ifacesOut == fn.resultTypes.toList.any (P.ifacesRec ·)) && (c.loopsOut == fn.resultTypes.toList.any (P.loopsFrom ·)) && c.shortTexts.isNone &&
      (c.kinds == (if c.domain.isEmpty then [] else fn.params.toList.map fun t => match P.underlying t with | some (.int k) => some k | _ => none)) && (c.pinned == c.pinnedBy) &&
      (c.veiled == (fn.params.toList ++ s.plain.varTypes P ++ fn.resultTypes.toList).any (P.veiledRec ·)) && c.veiledFits P fn.params.toList (fn.params.toList ++ s.plain.varTypes P ++ fn.resultTypes.toList)) = true) : joinedFacts P f fn s c = true := by
  unfold joinedFacts
  rw [h1, h2, h3, h4, h5, h6, h7, h8, h9, h10, h11, h12, h13, h14, h15]
  simp only [Bool.true_and, Bool.and_true]
  exact h16
end Go.PV
namespace Go.PV
open Go Go.RowKit Go.Lib Go.Proofs Go.Proofs.YtfdopmapaaagoaaGreatDoor
theorem pow_datum : (Rows.laid_internal_strconv_uint64pow10 : DataW Unit) = Lib.tabData .u64 Lib.pow10Tab := by kernel_rfl
theorem laidT_of {r : List (String × DataW Unit)} {W : World} (h : laidMet Tryz.prog (("internal/strconv.uint64pow10", Rows.laid_internal_strconv_uint64pow10) :: r) W) : Lib.TabIs Tryz.prog W "internal/strconv.uint64pow10" .u64 Lib.pow10Tab := by
  rw [pow_datum] at h
  exact tabIs_of_head (g := 1) (by kernel_rfl) (by kernel_rfl) Tryz.underlying285 Tryz.underlying266 (by kernel_rfl) (by kernel_rfl) h
theorem star_es : "*" ++ "errors.errorString" = "*errors.errorString" := by decide
theorem row_es (u : TypeId) (h : Tryz.prog.typeName? 3 u = some "*errors.errorString") : u = 303 :=
  typeName_ptr_named (nm := "errors.errorString") (by rw [star_es]; kernel_rfl) (by kernel_rfl) (by decide) u (by rw [star_es]; exact h)
theorem globRan_of {r : List (String × DataW Unit)} {W : World} (h : laidMet Tryz.prog (("strconv.ErrRange", Rows.laid_strconv_ErrRange) :: r) W) : ∃ tp p, W.var? Tryz.prog "strconv.ErrRange" = some #[.iface tp p] := by
  obtain ⟨a, s, hv, _⟩ := laid_sentinel (g := 3) h (by kernel_rfl) (by kernel_rfl) Tryz.underlying217 row_es Tryz.underlying303 Tryz.underlying305 rfl rfl Tryz.underlying9 (by kernel_rfl) (by kernel_rfl)
  exact ⟨_, _, hv⟩
theorem globSyn_of {r : List (String × DataW Unit)} {W : World} (h : laidMet Tryz.prog (("strconv.ErrSyntax", Rows.laid_strconv_ErrSyntax) :: r) W) : ∃ tp p, W.var? Tryz.prog "strconv.ErrSyntax" = some #[.iface tp p] := by
  obtain ⟨a, s, hv, _⟩ := laid_sentinel (g := 2) h (by kernel_rfl) (by kernel_rfl) Tryz.underlying217 row_es Tryz.underlying303 Tryz.underlying305 rfl rfl Tryz.underlying9 (by kernel_rfl) (by kernel_rfl)
  exact ⟨_, _, hv⟩
end Go.PV
