/- Part of the proof of AtomsReads. -/
import Derived.Test.YtefolkppcdjbpaaGreatDoorM4
import Derived.ChangeArms
import Derived.DataElems
import Derived.DataReads
import Derived.SizedLaws
import Derived.ChangeSlices
import Derived.WideShapes
import Derived.ChangeShapes
import Derived.Test.YtefolkppcdjbpaaGreatDoorRows
import Derived.LaidMore
import Derived.Stop.LaidErr
import Derived.Lib.LaidTab
import Derived.MakeChecks
import Derived.LaidLaws
namespace Go.PV
open Go Go.Proofs
set_option maxRecDepth 100000
theorem atmH_B {a : Atm} (h : atmH a = false) : atmB a := by
  unfold atmH trmH at h
  simp at h
  obtain ⟨⟨h1, h2⟩, h3⟩ := h
  exact ⟨by omega, by omega, fun t ht => by have := h3 t ht; exact ⟨by omega, by omega⟩⟩
theorem opsH_B {l : List Stp} (h : opsH l = false) : opsB l := by
  unfold opsH stpH at h
  simp at h
  obtain ⟨h1, h3⟩ := h
  exact ⟨by omega, fun t ht => by have := h3 t ht; exact ⟨by omega, by omega⟩⟩
theorem toksH_B {l : List Tok} (h : toksH l = false) : tokB l := by
  unfold toksH tokH at h
  simp at h
  obtain ⟨h1, h3⟩ := h
  exact ⟨by omega, fun t ht => by have := h3 t ht; omega⟩
theorem tokB_len {l : List Tok} (h : tokB l) : l.length ≤ 1000000 := h.1
theorem atomsBack_good (a b : Atm) (x y : List Stp) (more : Int) {p1 p2 : Prop} (_ : p1) (_ : p2) (_ : x.length ≤ maxLen) {p3 : Stp → Prop} (_ : ∀ v ∈ x, p3 v) (_ : y.length ≤ maxLen) {p4 : Stp → Prop} (_ : ∀ v ∈ y, p4 v) (_ : (Lit.int .i64 more).wf = true) :
    Good Tryz.prog 4 [.agg a.c, .agg b.c, .sl 5 (stpV x), .sl 5 (stpV y), .int .i64 more] [] [.bool true] [] := by
  refine good_of hP Tryz.func4 (by kernel_rfl) (lv := [0, 1, 2, 3, 4, 5, 6, 10, 11, 12, 13, 14, 15, 16, 17, 18, 20, 21, 23, 24, 25, 26, 27, 28, 29, 31, 32, 34, 48, 67, 137, 149]) (js := [67]) ⟨rfl, rfl, rfl, rfl, rfl, rfl, _, rfl, ?_⟩
  obtain ⟨k, hk, hw⟩ := modk (m := 6) (by omega) (by omega) more
  have h6 : k < 6 := by omega
  obtain ⟨q, _, hT, hq, hs, hh⟩ := bK_facts k h6
  have hTl : k < bT.length := h6
  have hTe : bT[k] = weaveK q := by rw [List.getElem?_eq_getElem hTl] at hT; exact Option.some.inj hT
  have hbl : (weaveK q).length ≤ 5 := by
    rw [← hTe]
    have : ∀ k (h : k < bT.length), bT[k].length ≤ 5 := by decide
    exact this k hTl
  generalize hbe : weaveK q = beh at *
  conv => whnf
  refine call0 (heavyA_good a) ?_
  cases ha : atmH a with
  | true =>
    conv => whnf
    exact fin0 rfl trivial
  | false =>
  have ha := atmH_B ha
  conv => whnf
  refine call0 (heavyA_good b) ?_
  cases hb : atmH b with
  | true =>
    conv => whnf
    exact fin0 rfl trivial
  | false =>
  have hb := atmH_B hb
  conv => whnf
  refine call0 (heavyX_good x) ?_
  cases hx : opsH x with
  | true =>
    conv => whnf
    exact fin0 rfl trivial
  | false =>
  have hx := opsH_B hx
  conv => whnf
  refine call0 (heavyX_good y) ?_
  cases hy : opsH y with
  | true =>
    conv => whnf
    exact fin0 rfl trivial
  | false =>
  have hy := opsH_B hy
  conv => whnf
  refine ⟨⟨⟩, by decide, ?_⟩
  conv => whnf
  rw [hw]
  refine ⟨⟨⟩, idxB (f := fun t => [V.str t]) hTl rfl, ?_⟩
  conv => whnf
  refine ⟨[.str beh], by rw [← hTe]; exact (idxM (f := fun t => [V.str t]) hTl rfl).2, ?_⟩
  conv => whnf
  refine call0 (atomText_good a ha) ?_
  conv => whnf
  refine call0 (atomText_good b hb) ?_
  conv => whnf
  refine seq_of hP [0, 1, 2, 3, 4, 5, 6, 10, 11, 12, 13, 14, 15, 16, 17, 18, 20, 21, 23, 24, 25, 26, 27, 28, 29, 31, 32, 34, 48, 67, 137, 149] [67] [2, 3, 11] [] [] (fun st => st = ⟨[(2, .sl 5 (stpV x)), (3, .sl 5 (stpV y)), (11, .str beh)], []⟩) ?_ ?_
  · cases hka : atomOk a with
    | false =>
      conv => whnf
    | true =>
      rw [if_pos rfl, if_pos rfl]
      have hal := atomT_len hka
      obtain ⟨e1, e2, e3⟩ := parse_atom hka
      obtain ⟨e4, _⟩ := lex_atom hka hq (by rw [hbe]; exact hs)
      have e5 := read_atom hka hq (by rw [hbe]; exact hs) hh
      rw [hbe] at e4 e5
      have hb1 := tokB_R (atomT a ++ beh) (by rw [List.length_append]; omega)
      conv => whnf
      refine call0 (parseA_good (atomT a) (by omega)) ?_
      rw [e1]
      conv => whnf
      refine ⟨⟨⟩, by dsimp only; omega, ?_⟩
      conv => whnf
      refine call0 (tokens_good (atomT a ++ beh) (by rw [List.length_append]; omega)) ?_
      rw [e4]
      generalize toksR (atomT a ++ beh) = l1 at *
      conv => whnf
      refine call0 (tokens_good (atomT a) (by omega)) ?_
      rw [e2]
      generalize toksR (atomT a) = l2 at *
      conv => whnf
      refine call0 (readA_good l1 0 hb1 (Nat.zero_le _)) ?_
      rw [e5]
      conv => whnf
      refine branch_of (fun h => ?_) (fun h => ?_)
      · rw [Bool.not_eq_true'] at h
        have h := of_decide_eq_false h
        rw [List.length_map] at h
        dsimp only at h
        omega
      conv => whnf
      refine call0 (keepAtom_good a a ha.2.1) ?_
      rw [decide_eq_true rfl]
      conv => whnf
      refine call0 (keepAtom_good a a ha.2.1) ?_
      rw [decide_eq_true rfl]
      cases hkb : atomOk b with
      | false =>
        conv => whnf
      | true =>
        conv => whnf
        refine call0 (keepAtom_good a b ha.2.1) ?_
        have e6 : (!(decide (atomT a = atomT b) == decide (a = b))) = false := by rw [atomT_inj hka hkb]; simp
        conv => whnf
        rw [if_pos rfl]
        rw [e6]
        conv => whnf
  rintro st rfl
  conv => whnf
  refine call0 (exprText_good x hx) ?_
  cases hkx : exprOk x with
  | false =>
    conv => whnf
    refine call0 (exprText_good y hy) ?_
    conv => whnf
    refine call0 (wakes10_good) ?_
    conv => whnf
    exact fin0 rfl trivial
  | true =>
    rw [if_pos rfl, if_pos rfl]
    have hxl := exprT_len hkx
    obtain ⟨e1, e2, e3⟩ := read_expr hkx hq (by rw [hbe]; exact hs)
    rw [hbe] at e1 e2 e3
    have hb1 := tokB_R (exprT x ++ beh) (by rw [List.length_append]; omega)
    conv => whnf
    refine call0 (exprText_good y hy) ?_
    conv => whnf
    refine ⟨⟨⟩, by dsimp only; omega, ?_⟩
    conv => whnf
    refine call0 (tokens_good (exprT x ++ beh) (by rw [List.length_append]; omega)) ?_
    rw [e1]
    generalize toksR (exprT x ++ beh) = l1 at *
    conv => whnf
    refine call0 (readX_good l1 0 hb1 (Nat.zero_le _)) ?_
    rw [e2, e3]
    conv => whnf
    refine call0 (keepOps_good x x hx.1) ?_
    rw [decide_eq_true rfl]
    cases hky : exprOk y with
    | false =>
      conv => whnf
      refine call0 (wakes10_good) ?_
      conv => whnf
      exact fin0 rfl trivial
    | true =>
      conv => whnf
      refine call0 (keepOps_good x y hx.1) ?_
      have e6 : (decide (exprT x = exprT y) == decide (x = y)) = true := by rw [exprT_inj hkx hky]; simp
      conv => whnf
      rw [if_pos rfl]
      rw [e6]
      conv => whnf
      refine call0 (wakes10_good) ?_
      conv => whnf
      exact fin0 rfl trivial
theorem atomsReads_good (l : List Tok) (i : Int) (_ : l.length ≤ maxLen) {p : Tok → Prop} (_ : ∀ v ∈ l, p v) (_ : (Lit.int .i64 i).wf = true) :
    Good Tryz.prog 5 [.sl 4 (toksV l), .int .i64 i] [] [.bool true] [] := by
  refine good_of hP Tryz.func5 (by kernel_rfl) (lv := [0, 1, 4, 5, 6, 7, 8, 9, 10, 11, 12, 13, 14, 15, 16, 17, 19, 20, 22, 24, 33, 66, 75, 92]) (js := [33]) ⟨rfl, rfl, rfl, rfl, rfl, rfl, _, rfl, ?_⟩
  conv => whnf
  refine call0 (heavyT_good l) ?_
  cases hb : toksH l with
  | true =>
    conv => whnf
    exact fin0 rfl trivial
  | false =>
  have hb := toksH_B hb
  by_cases hi : 0 ≤ i ∧ i ≤ l.length
  · obtain ⟨n, rfl⟩ : ∃ n : Nat, i = n := ⟨i.toNat, by omega⟩
    have hn : n ≤ l.length := by omega
    conv => whnf
    refine seq_of hP [0, 1, 4, 5, 6, 7, 8, 9, 10, 11, 12, 13, 14, 15, 16, 17, 19, 20, 22, 24, 33, 66, 75, 92] [33] [0, 1] [] [] (fun st => st = ⟨[(0, .sl 4 (toksV l)), (1, .int .i64 n)], []⟩) ?_ ?_
    · conv => whnf
      refine call0 (readA_good l n hb hn) ?_
      obtain ⟨_, _, h0⟩ := readA_place hn
      rcases h0 with h0 | h0
      · obtain ⟨a1, a2, a3⟩ := readA_ok h0
        rw [h0]
        generalize readA l n = z at *
        have hal := atomT_len a1
        obtain ⟨e1, e2, e3⟩ := parse_atom a1
        have hab : atmB z.1 := by
          obtain ⟨q1, q2, q3⟩ := atomOk_len a1
          exact ⟨by omega, by omega, fun t ht => by have := q3 t ht; exact ⟨by omega, by omega⟩⟩
        conv => whnf
        refine call0 (atomText_good z.1 hab) ?_
        rw [a1, if_pos rfl]
        conv => whnf
        refine call0 (parseA_good (atomT z.1) (by omega)) ?_
        rw [e1]
        conv => whnf
        refine call0 (keepAtom_good z.1 z.1 hab.2.1) ?_
        rw [decide_eq_true rfl]
        conv => whnf
        refine branch_of (fun h => ?_) (fun h => ?_)
        · have h := of_decide_eq_true h; omega
        conv => whnf
        refine branch_of (fun h => ?_) (fun h => ?_)
        · have h := of_decide_eq_true h
          rw [List.length_map] at h; omega
        conv => whnf
      · rw [h0]
        conv => whnf
    rintro st rfl
    conv => whnf
    refine call0 (readX_good l n hb hn) ?_
    obtain ⟨p1, p2, h0⟩ := readX_place hn
    rcases h0 with h0 | h0
    · obtain ⟨a1, a2, a3⟩ := readX_ok h0
      rw [h0]
      generalize readX l n = z at *
      have hxl := exprT_len a1
      have hr := read_expr a1 (q := []) trivial rfl
      have e : exprT z.1 ++ weaveK [] = exprT z.1 := List.append_nil _
      rw [e] at hr
      obtain ⟨e1, e2, e3⟩ := hr
      have hb1 := tokB_R (exprT z.1) (by omega)
      have hxb : opsB z.1 := by
        obtain ⟨q1, q2⟩ := exprOk_len a1
        exact ⟨by omega, fun o ho => by have := q2 o ho; exact ⟨by omega, by omega⟩⟩
      conv => whnf
      refine call0 (exprText_good z.1 hxb) ?_
      rw [a1, if_pos rfl]
      conv => whnf
      refine call0 (tokens_good (exprT z.1) (by omega)) ?_
      rw [e1]
      generalize toksR (exprT z.1) = l1 at *
      conv => whnf
      refine call0 (readX_good l1 0 hb1 (Nat.zero_le _)) ?_
      rw [e2, e3]
      conv => whnf
      refine call0 (keepOps_good z.1 z.1 hxb.1) ?_
      rw [decide_eq_true rfl]
      conv => whnf
      refine branch_of (fun h => ?_) (fun h => ?_)
      · conv => whnf
        refine branch_of (fun h2 => ?_) (fun h2 => ?_)
        · conv => whnf
          refine call0 (wakes10_good) ?_
          conv => whnf
          exact fin0 rfl trivial
        · have h2 := of_decide_eq_false h2
          rw [List.length_map] at h2; omega
      · have h := of_decide_eq_false h; omega
    · have hz : (readX l n).1 = [] := by
        unfold readX at h0 ⊢
        dsimp only at h0 ⊢
        rw [if_neg (by omega)]
      rw [h0, hz]
      generalize readX l n = z at *
      conv => whnf
      refine branch_of (fun h => ?_) (fun h => ?_)
      · conv => whnf
        refine branch_of (fun h2 => ?_) (fun h2 => ?_)
        · conv => whnf
          refine call0 (wakes10_good) ?_
          conv => whnf
          exact fin0 rfl trivial
        · have h2 := of_decide_eq_false h2
          rw [List.length_map] at h2; omega
      · have h := of_decide_eq_false h; omega
  · conv => whnf
    refine seq_of hP [0, 1, 4, 5, 6, 7, 8, 9, 10, 11, 12, 13, 14, 15, 16, 17, 19, 20, 22, 24, 33, 66, 75, 92] [33] [0, 1] [] [] (fun st => st = ⟨[(0, .sl 4 (toksV l)), (1, .int .i64 i)], []⟩) ?_ ?_
    · conv => whnf
      refine call0 (readA_bad l i hb.1 hi) ?_
      conv => whnf
    rintro st rfl
    conv => whnf
    refine call0 (readX_bad l i hb.1 hi) ?_
    conv => whnf
    refine branch_of (fun h => ?_) (fun h => ?_)
    · conv => whnf
      refine call0 (wakes10_good) ?_
      conv => whnf
      exact fin0 rfl trivial
    · have h := of_decide_eq_false h
      conv => whnf
      refine branch_of (fun h2 => ?_) (fun h2 => ?_)
      · conv => whnf
        refine call0 (wakes10_good) ?_
        conv => whnf
        exact fin0 rfl trivial
      · have h2 := of_decide_eq_false h2
        rw [List.length_map] at h2; omega
end Go.PV
namespace Go.PV
open Go Go.RowKit
/-! an argument that can be read as data, as plain data -/
def cel (w : World) (b o : Nat) (u : Value) : Prop := w.cell? ⟨b, o, none⟩ = some u
def CellsW (w : World) (l : List V) (cs : List Value) : Prop := cs.length = l.length ∧ ∀ (j : Nat) (p : V), l[j]? = some p → ∃ u, cs[j]? = some u ∧ Sh (cel w) p u
theorem CellsW.one {w : World} {p : V} {u : Value} (h : Sh (cel w) p u) : CellsW w [p] [u] := ⟨rfl, fun j q hj => by
  cases j with
  | zero => simp at hj; subst hj; exact ⟨u, rfl, h⟩
  | succ j => simp at hj⟩
theorem CellsW.append {w : World} {l m : List V} {cs ds : List Value} (h : CellsW w l cs) (k : CellsW w m ds) : CellsW w (l ++ m) (cs ++ ds) := ⟨by simp [h.1, k.1], fun j p hj => by
  rcases Nat.lt_or_ge j l.length with hl | hl
  · rw [List.getElem?_append_left hl] at hj
    rw [List.getElem?_append_left (by rw [h.1]; exact hl)]; exact h.2 j p hj
  · rw [List.getElem?_append_right hl] at hj
    rw [List.getElem?_append_right (by rw [h.1]; exact hl), h.1]; exact k.2 _ p hj⟩
structure OpensV {α : Type} (n : Nat) (c : α → List V) (P : Program) (t : TypeId) (ok : α → Prop) : Prop where
  cells : P.cellsOf t = n
  len : ∀ v, (c v).length = n
  opens : ∀ {H : Type} {enc : TypeId × Value → H} {w : World} {base : Nat} {spare : Nat → Bool} {held : Bool} {fuel : Nat} {cs : List Value} {x : DataW H × List MemPlace},
    DataW.trod enc P w base spare held fuel t cs = some x → ∃ v, CellsW w (c v) cs ∧ ok v
section
variable {P : Program} {t : TypeId}
theorem OpensV.mono {α : Type} {n : Nat} {c : α → List V} {ok ok' : α → Prop} (h : OpensV n c P t ok) (hm : ∀ v, ok v → ok' v) : OpensV n c P t ok' :=
  ⟨h.cells, h.len, fun hx => by obtain ⟨v, h1, h2⟩ := h.opens hx; exact ⟨v, h1, hm v h2⟩⟩
theorem OpensV.int {k : IntKind} (hu : P.underlying t = some (.int k)) (hc : P.cellsOf t = 1) : OpensV 1 (fun n => [.int k n]) P t (fun n => (Lit.int k n).wf = true) :=
  ⟨hc, fun _ => rfl, fun hx => by obtain ⟨m, rfl, rfl, hw⟩ := DataW.trod_int hu hx; exact ⟨m, .one (.int _ _), hw⟩⟩
theorem OpensV.string (hu : P.underlying t = some .string) (hc : P.cellsOf t = 1) : OpensV 1 (fun s : List UInt8 => [.str s]) P t (fun s => s.length ≤ maxLen) :=
  ⟨hc, fun _ => rfl, fun hx => by obtain ⟨s, rfl, _, hw⟩ := DataW.trod_string hu hx; exact ⟨s.data.toList, .one (.str _), hw⟩⟩
theorem OpensV.bool (hu : P.underlying t = some .bool) (hc : P.cellsOf t = 1) : OpensV 1 (fun b => [.bool b]) P t (fun _ => True) :=
  ⟨hc, fun _ => rfl, fun hx => by obtain ⟨b, rfl, _⟩ := DataW.trod_bool hu hx; exact ⟨b, .one (.bool _), trivial⟩⟩
theorem OpensV.iso {α β : Type} {n : Nat} {c : α → List V} {ok : α → Prop} {f : β → α} (g : α → β) (hg : ∀ a, f (g a) = a) (h : OpensV n c P t ok) : OpensV n (fun b => c (f b)) P t (fun b => ok (f b)) :=
  ⟨h.cells, fun b => h.len (f b), fun hx => by
    obtain ⟨v, h1, h2⟩ := h.opens hx
    exact ⟨g v, by rw [hg]; exact h1, by rw [hg]; exact h2⟩⟩
/-- fields that lie side by side from off on -/
structure OpensVs {α : Type} (n : Nat) (c : α → List V) (P : Program) (fs : List Field) (off : Nat) (ok : α → Prop) : Prop where
  len : ∀ v, (c v).length = n
  opens : ∀ {H : Type} {enc : TypeId × Value → H} {w : World} {base : Nat} {spare : Nat → Bool} {held : Bool} {fuel : Nat} {cs : List Value},
    off + n = cs.length → (∀ (i : Nat) (f : Field), fs[i]? = some f → ∃ x, DataW.trod enc P w base spare held fuel f.type ((cs.drop f.offset).take (P.cellsOf f.type)) = some x) → ∃ v, CellsW w (c v) (cs.drop off) ∧ ok v
theorem OpensVs.one {α : Type} {n : Nat} {c : α → List V} {f : Field} {off : Nat} {ok : α → Prop} (ho : f.offset = off) (h : OpensV n c P f.type ok) : OpensVs n c P [f] off ok := by
  refine ⟨h.len, ?_⟩
  intro H enc w base spare held fuel cs hl hx
  obtain ⟨x, hx⟩ := hx 0 f rfl
  rw [ho, h.cells, List.take_of_length_le (by simp; omega)] at hx
  exact h.opens hx
theorem OpensVs.cons {α β : Type} {n m : Nat} {c : α → List V} {d : β → List V} {f : Field} {fs : List Field} {off : Nat} {ok : α → Prop} {ok' : β → Prop} (ho : f.offset = off) (h : OpensV n c P f.type ok) (h' : OpensVs m d P fs (off + n) ok') :
    OpensVs (n + m) (fun v : α × β => c v.1 ++ d v.2) P (f :: fs) off (fun v => ok v.1 ∧ ok' v.2) := by
  refine ⟨fun v => by rw [List.length_append, h.len, h'.len], ?_⟩
  intro H enc w base spare held fuel cs hl hx
  obtain ⟨x, hx0⟩ := hx 0 f rfl
  rw [ho, h.cells] at hx0
  obtain ⟨v, hv, ov⟩ := h.opens hx0
  obtain ⟨u, hu, ou⟩ := h'.opens (cs := cs) (by omega) (fun i g hg => hx (i + 1) g hg)
  refine ⟨(v, u), ?_, ov, ou⟩
  have := hv.append hu
  rwa [← List.drop_drop, List.take_append_drop] at this
theorem OpensV.struct {α : Type} {n : Nat} {c : α → List V} {fs : Array Field} {ok : α → Prop} (hu : P.underlying t = some (.struct fs)) (hc : P.cellsOf t = n) (h : OpensVs n c P fs.toList 0 ok) : OpensV n c P t ok := by
  refine ⟨hc, h.len, ?_⟩
  intro H enc w base spare held fuel cs x hx
  obtain ⟨xs, n, rfl, _, hl, hxl, hf⟩ := DataW.trod_struct hu hx
  have := h.opens (cs := cs) (enc := enc) (w := w) (base := base) (spare := spare) (held := held) (fuel := n) (by omega) (by
    intro i f hi
    have hi' : fs[i]? = some f := by simpa using hi
    have hlt : i < xs.length := by
      rw [hxl]
      exact (Array.getElem?_eq_some_iff.1 hi').1
    exact ⟨xs[i], by rw [hf i f hi', List.getElem?_eq_getElem hlt]⟩)
  simpa using this
theorem list_of {α : Type} {Q : Nat → α → Prop} : ∀ n : Nat, (∀ i, i < n → ∃ v, Q i v) → ∃ l : List α, l.length = n ∧ ∀ i v, l[i]? = some v → Q i v := by
  intro n
  induction n with
  | zero => intro _; exact ⟨[], rfl, fun i v h => by simp at h⟩
  | succ n ih =>
    intro h
    obtain ⟨l, hl, hq⟩ := ih (fun i hi => h i (by omega))
    obtain ⟨v, hv⟩ := h n (by omega)
    refine ⟨l ++ [v], by simp [hl], ?_⟩
    intro i u hu
    by_cases hi : i < l.length
    · rw [List.getElem?_append_left hi] at hu
      exact hq i u hu
    · rw [List.getElem?_append_right (by omega)] at hu
      have h0 : i - l.length = 0 := by
        by_cases h0 : i - l.length = 0
        · exact h0
        · rw [List.getElem?_eq_none (by simp; omega)] at hu; cases hu
      rw [h0] at hu
      simp at hu
      subst hu
      have : i = n := by omega
      subst this
      exact hv
theorem cell_spot {w : World} {a : Addr} {u : Value} (h : w.cell? a = some u) : a.spot = none := by
  unfold World.cell? at h
  split at h
  · cases hs : a.spot with
    | none => rfl
    | some s => rw [hs] at h; simp at h
  · cases h
/-- a slice that is read as data -/
theorem OpensV.row {α : Type} {n : Nat} {c : α → List V} {e : TypeId} {ok : α → Prop} (h : OpensV n c P e ok) (h0 : 0 < n) (hu : P.underlying t = some (.slice e))
    {H : Type} {enc : TypeId × Value → H} {w : World} {base : Nat} {spare : Nat → Bool} {held : Bool} {fuel : Nat} {cs : List Value} {x : DataW H × List MemPlace}
    (hx : DataW.trod enc P w base spare held fuel t cs = some x) : ∃ (l : List α) (A : Option Addr) (cap : Nat), cs = [.slice A l.length cap] ∧ Sh (cel w) (.sl n (l.map c)) (.slice A l.length cap) ∧ l.length ≤ cap ∧ cap ≤ maxLen ∧ ∀ v ∈ l, ok v := by
  rcases DataW.trod_slice hu hx with ⟨hcs, _⟩ | ⟨a, len, cap, elems, rest, m, rfl, hcs, _, hb, hl, hm, hlen, hel, _⟩
  · exact ⟨[], none, 0, hcs, .sl0 _ _ _, Nat.le_refl _, by unfold maxLen; omega, fun v hv => by simp at hv⟩
  · obtain ⟨l, hll, hq⟩ := list_of (Q := fun i v => ∃ cs, w.cells? base (a.add (i * P.cellsOf e)) (P.cellsOf e) = some cs ∧ CellsW w (c v) cs ∧ ok v) len (by
      intro i hi
      have h1 := hel i hi
      rw [List.getElem?_eq_getElem (by omega), Option.bind_eq_some_iff] at h1
      obtain ⟨cs, h2, h3⟩ := h1
      obtain ⟨v, h4, h5⟩ := h.opens h3
      exact ⟨v, cs, h2, h4, h5⟩)
    have hok : ∀ v ∈ l, ok v := by
      intro v hv
      obtain ⟨i, hi⟩ := List.getElem?_of_mem hv
      obtain ⟨_, _, _, h5⟩ := hq i v hi
      exact h5
    refine ⟨l, some a, cap, by rw [hll]; exact hcs, ?_, by omega, hm, hok⟩
    by_cases hz : l = []
    · subst hz; exact .sl0 _ _ _
    have at_ : ∀ (i : Nat) (v : α) (j : Nat) (p : V), l[i]? = some v → (c v)[j]? = some p → ∃ u, w.cell? ((a.add (i * n)).add j) = some u ∧ Sh (cel w) p u := by
      intro i v j p hi hj
      obtain ⟨cs, h2, h4, _⟩ := hq i v hi
      obtain ⟨_, h6, h7⟩ := World.cells?_some h2
      obtain ⟨u, h8, h9⟩ := h4.2 j p hj
      have hlt : j < P.cellsOf e := by rw [← h6]; exact (List.getElem?_eq_some_iff.1 h8).1
      have h10 := h7 j hlt
      rw [h.cells, h8] at h10
      exact ⟨u, h10, h9⟩
    have hsp : a.spot = none := by
      obtain ⟨v, r, rfl⟩ := List.exists_cons_of_ne_nil hz
      have h1 : 0 < (c v).length := by rw [h.len]; exact h0
      obtain ⟨u, h2, _⟩ := at_ 0 v 0 _ rfl (List.getElem?_eq_getElem h1)
      have := cell_spot h2
      simpa [Addr.add] using this
    obtain ⟨b, off, sp⟩ := a
    simp only at hsp
    subst hsp
    have hadd : ∀ i j : Nat, ((⟨b, off, none⟩ : Addr).add (i * n)).add j = ⟨b, off + i * n + j, none⟩ := fun i j => by
      rw [Addr.add_none, Addr.add_none]
    have hml : (l.map c).length = l.length := List.length_map _
    rw [← hml]
    refine .sl n (l.map c) b off cap (fun i j => (w.cell? ⟨b, off + i * n + j, none⟩).getD undef) h0 (fun i x hx => ?_) (by rw [hml]; omega) (fun i x j p hx hj => ?_) (fun i x j p hx hj => ?_)
    · rw [List.getElem?_map, Option.map_eq_some_iff] at hx
      obtain ⟨v, _, rfl⟩ := hx; exact h.len v
    · rw [List.getElem?_map, Option.map_eq_some_iff] at hx
      obtain ⟨v, hi, rfl⟩ := hx
      obtain ⟨u, h2, _⟩ := at_ i v j p hi hj
      rw [hadd] at h2
      show w.cell? _ = _
      rw [h2]; rfl
    · rw [List.getElem?_map, Option.map_eq_some_iff] at hx
      obtain ⟨v, hi, rfl⟩ := hx
      obtain ⟨u, h2, h3⟩ := at_ i v j p hi hj
      rw [hadd] at h2
      rw [h2]; exact h3
theorem OpensV.slice {α : Type} {n : Nat} {c : α → List V} {e : TypeId} {ok : α → Prop} (h : OpensV n c P e ok) (h0 : 0 < n) (hu : P.underlying t = some (.slice e)) (hc : P.cellsOf t = 1) : OpensV 1 (fun l : List α => [.sl n (l.map c)]) P t (fun l => l.length ≤ maxLen ∧ ∀ v ∈ l, ok v) :=
  ⟨hc, fun _ => rfl, fun hx => by
    obtain ⟨l, A, cap, rfl, h2, h3, h4, h5⟩ := h.row h0 hu hx
    exact ⟨l, .one h2, Nat.le_trans h3 h4, h5⟩⟩
/-- an argument that is a slice -/
theorem OpensV.arg {α : Type} {n : Nat} {c : α → List V} {e : TypeId} {ok : α → Prop} (h : OpensV n c P e ok) (h0 : 0 < n) (hu : P.underlying t = some (.slice e))
    {H : Type} {enc : TypeId × Value → H} {w : World} {r : Reach} {base b0 : Nat} {spare : Nat → Bool} {held : Bool} {v : Value} {x : DataW H} {ps : List MemPlace}
    (hv : Value.okWide P w r b0 t v) (hx : DataW.Trod enc P w base spare held t v x ps) : ∃ l : List α, Sh (cel w) (.sl n (l.map c)) v ∧ l.length ≤ maxLen ∧ ∀ v ∈ l, ok v := by
  obtain ⟨a, len, cap, rfl⟩ := Go.WideShapes.okWide_slice hu hv
  obtain ⟨fuel, hf⟩ := hx
  have hf' : DataW.trod enc P w base spare held fuel t [.slice a len cap] = some (x, ps) := hf
  obtain ⟨l, A, cp, h1, h2, h3, h4, h5⟩ := h.row h0 hu hf'
  cases h1
  exact ⟨l, h2, Nat.le_trans h3 h4, h5⟩
/-- an argument that is a struct -/
theorem OpensV.agg {α : Type} {n : Nat} {c : α → List V} {ok : α → Prop} (h : OpensV n c P t ok) {fs : Array Field} (hu : P.underlying t = some (.struct fs))
    {H : Type} {enc : TypeId × Value → H} {w : World} {r : Reach} {base b0 : Nat} {spare : Nat → Bool} {held : Bool} {v : Value} {x : DataW H} {ps : List MemPlace}
    (hv : Value.okWide P w r b0 t v) (hx : DataW.Trod enc P w base spare held t v x ps) : ∃ u cs, v = .agg ⟨cs⟩ ∧ CellsW w (c u) cs ∧ ok u := by
  obtain ⟨cs, rfl, _⟩ := Go.WideShapes.okWide_struct hu hv
  obtain ⟨fuel, hf⟩ := hx
  obtain ⟨u, h1, h2⟩ := h.opens hf
  exact ⟨u, cs.toList, rfl, h1, h2⟩
end
/-- what nothing owns -/
def G0 : Gh := { own := fun _ => ⟨none, none⟩, blk := fun _ => 0, cap := fun _ => 0, isnil := fun _ => false }
theorem sh0 {w : World} {p : V} {v : Value} (h : Sh (cel w) p v) : Sh (stab G0 w) p v := h.mono fun b o c hc => ⟨fun l hl => (by cases hl), hc⟩
theorem ra0 {w : World} {O : Tb} {p : V} {v : Value} (h : Sh (cel w) p v) : RA G0 w O p v := .cell _ _ (.sh _ _ (sh0 h))
theorem raAgg {w : World} {O : Tb} {l : List V} {cs : List Value} (h : CellsW w l cs) : RA G0 w O (.agg l) (.agg ⟨cs⟩) :=
  .agg _ _ ⟨by simpa using h.1, fun j p hj => by obtain ⟨u, h1, h2⟩ := h.2 j p hj; exact ⟨u, by simpa using h1, .sh _ _ (sh0 h2)⟩⟩
/-- pair by pair -/
inductive Each (R : V → Value → Prop) : List V → List Value → Prop
  | nil : Each R [] []
  | cons {p v ps vs} (h : R p v) (k : Each R ps vs) : Each R (p :: ps) (v :: vs)
theorem cellsOf {R : V → Value → Prop} : ∀ {ps : List V} {vs : List Value}, Each R ps vs → Cells R ps ⟨vs⟩
  | [], [], _ => ⟨rfl, fun j p hj => by simp at hj⟩
  | p :: ps, v :: vs, .cons h1 h2 => by
    have ih := cellsOf h2
    refine ⟨by have := ih.1; simp at this ⊢; omega, fun j q hj => ?_⟩
    cases j with
    | zero => simp at hj; subst hj; exact ⟨v, rfl, h1⟩
    | succ j => obtain ⟨c, h3, h4⟩ := ih.2 j q (by simpa using hj); exact ⟨c, by simpa using h3, h4⟩
/-- a law's call -/
theorem law_calls {P : Program} [Env P] {f : FuncId} {args : List V} {vs : List Value} {w : World} (h : Good P f args [] [.bool true] []) (hc : Each (RA G0 w (tbl [])) args vs) (hn : Env.ng P ≤ w.heap.size) (hz : Env.Z P w) :
    Calls P f ⟨vs⟩ w fun e w' => e = .returned (.bool true) ∧ Below w.heap.size w w' :=
  (h.run ⟨vs⟩ w G0 (cellsOf hc) (fun k o hk => by simp at hk) (fun k hk => ⟨by omega, rfl⟩) hz).mono fun e w' hh => by
    obtain ⟨rv, G', h1, h2, _, h3⟩ := hh
    refine ⟨?_, ⟨h3.sys, h3.tape, h3.output, h3.size, fun k hk => (h3.im k hk rfl).2⟩⟩
    rw [h1]
    cases (show RA G' w' (tbl []) (.bool true) rv from h2).bool_eq
    rfl
end Go.PV
namespace Go.PV
open Go Go.RowKit Go.Proofs
/-! what is known of arguments of these types -/
def ok3 : Int → Prop := fun n : Int => (Lit.int .i64 n).wf = true
abbrev c3 : Int → List V := fun n => [.int .i64 n]
theorem o3 : OpensV 1 c3 Tryz.prog 3 ok3 := OpensV.int Tryz.underlying3 (by kernel_rfl)
def ok9 : List UInt8 → Prop := fun s : List UInt8 => s.length ≤ maxLen
abbrev c9 : List UInt8 → List V := fun s => [.str s]
theorem o9 : OpensV 1 c9 Tryz.prog 9 ok9 := OpensV.string Tryz.underlying9 (by kernel_rfl)
theorem t25 : OpensV 2 (fun v : Int × Int => c3 v.1 ++ (c3 v.2)) Tryz.prog 25 (fun v => ok3 v.1 ∧ ok3 v.2) := by
  refine OpensV.struct Tryz.underlying25 (by kernel_rfl) ?_
  refine OpensVs.cons (n := 1) (m := 1) (c := c3) (d := fun w : Int => c3 w) (ok := ok3) (ok' := fun w : Int => ok3 w) rfl o3 ?_
  exact OpensVs.one (c := c3) (ok := ok3) rfl o3
def ok25 : Int × Int → Prop := fun v => ok3 v.1 ∧ ok3 v.2
abbrev c25 : Int × Int → List V := fun v => c3 v.1 ++ (c3 v.2)
theorem o25 : OpensV 2 c25 Tryz.prog 25 ok25 := t25
theorem t30 : OpensV 4 (fun v : Int × List UInt8 × (Int × Int) => c3 v.1 ++ (c9 v.2.1 ++ (c25 v.2.2))) Tryz.prog 30 (fun v => ok3 v.1 ∧ ok9 v.2.1 ∧ ok25 v.2.2) := by
  refine OpensV.struct Tryz.underlying30 (by kernel_rfl) ?_
  refine OpensVs.cons (n := 1) (m := 3) (c := c3) (d := fun w : List UInt8 × (Int × Int) => c9 w.1 ++ (c25 w.2)) (ok := ok3) (ok' := fun w : List UInt8 × (Int × Int) => ok9 w.1 ∧ ok25 w.2) rfl o3 ?_
  refine OpensVs.cons (n := 1) (m := 2) (c := c9) (d := fun w : (Int × Int) => c25 w) (ok := ok9) (ok' := fun w : (Int × Int) => ok25 w) rfl o9 ?_
  exact OpensVs.one (c := c25) (ok := ok25) rfl o25
def ok30 : Tok → Prop := fun x => let v := ((fun v => (v.k, v.t, v.p) : Tok → (Int × List UInt8 × (Int × Int)))) x; ok3 v.1 ∧ ok9 v.2.1 ∧ ok25 v.2.2
abbrev c30 : Tok → List V := fun x => let v := ((fun v => (v.k, v.t, v.p) : Tok → (Int × List UInt8 × (Int × Int)))) x; c3 v.1 ++ (c9 v.2.1 ++ (c25 v.2.2))
theorem o30 : OpensV 4 c30 Tryz.prog 30 ok30 := OpensV.iso (f := (fun v => (v.k, v.t, v.p) : Tok → (Int × List UInt8 × (Int × Int)))) ((fun a => ⟨a.1, a.2.1, a.2.2⟩ : (Int × List UInt8 × (Int × Int)) → Tok)) (fun _ => rfl) t30
end Go.PV
namespace Go.PV
open Go Go.RowKit Go.Lib Go.Proofs Go.Proofs.YtefolkppcdjbpaaGreatDoor
theorem pow_datum : (Rows.laid_internal_strconv_uint64pow10 : DataW Unit) = Lib.tabData .u64 Lib.pow10Tab := by kernel_rfl
theorem laidT_of {r : List (String × DataW Unit)} {W : World} (h : laidMet Tryz.prog (("internal/strconv.uint64pow10", Rows.laid_internal_strconv_uint64pow10) :: r) W) : Lib.TabIs Tryz.prog W "internal/strconv.uint64pow10" .u64 Lib.pow10Tab := by
  rw [pow_datum] at h
  exact tabIs_of_head (g := 5) (by kernel_rfl) (by kernel_rfl) Tryz.underlying178 Tryz.underlying155 (by kernel_rfl) (by kernel_rfl) h
theorem star_es : "*" ++ "errors.errorString" = "*errors.errorString" := by decide
theorem row_es (u : TypeId) (h : Tryz.prog.typeName? 3 u = some "*errors.errorString") : u = 174 :=
  typeName_ptr_named (nm := "errors.errorString") (by rw [star_es]; kernel_rfl) (by kernel_rfl) (by decide) u (by rw [star_es]; exact h)
theorem globRan_of {r : List (String × DataW Unit)} {W : World} (h : laidMet Tryz.prog (("strconv.ErrRange", Rows.laid_strconv_ErrRange) :: r) W) : ∃ tp p, W.var? Tryz.prog "strconv.ErrRange" = some #[.iface tp p] := by
  obtain ⟨a, s, hv, _⟩ := laid_sentinel (g := 2) h (by kernel_rfl) (by kernel_rfl) Tryz.underlying107 row_es Tryz.underlying174 Tryz.underlying176 rfl rfl Tryz.underlying9 (by kernel_rfl) (by kernel_rfl)
  exact ⟨_, _, hv⟩
theorem globSyn_of {r : List (String × DataW Unit)} {W : World} (h : laidMet Tryz.prog (("strconv.ErrSyntax", Rows.laid_strconv_ErrSyntax) :: r) W) : ∃ tp p, W.var? Tryz.prog "strconv.ErrSyntax" = some #[.iface tp p] := by
  obtain ⟨a, s, hv, _⟩ := laid_sentinel (g := 1) h (by kernel_rfl) (by kernel_rfl) Tryz.underlying107 row_es Tryz.underlying174 Tryz.underlying176 rfl rfl Tryz.underlying9 (by kernel_rfl) (by kernel_rfl)
  exact ⟨_, _, hv⟩
end Go.PV
