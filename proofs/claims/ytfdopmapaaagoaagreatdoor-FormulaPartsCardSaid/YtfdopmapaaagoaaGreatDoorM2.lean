/- Part of the proof. -/
import Derived.Test.YtfdopmapaaagoaaGreatDoorM1
import Derived.MapKept
import Derived.Laws.MakeOwn
import Derived.KernelRfl
import Derived.Lib.AtoiAll
import Derived.Lib.ItoaNum
import Derived.Lib.Bytealg
import Derived.Lib.AtoiErrMem
set_option linter.unusedVariables false
set_option linter.unusedSimpArgs false
namespace Go.PV
open Go Go.RowKit
def resRel (G : Gh) (w : World) (O : Tb) (res : List V) (rv : Value) : Prop := match res with
  | [p] => RA G w O p rv
  | ps => ∃ vs, rv = .tuple vs ∧ Cells (RA G w O) ps vs
/-- what is kept -/
structure Keep (G : Gh) (w : World) (G' : Gh) (w' : World) (os : List Ob) : Prop where
  sys : w'.os = w.os
  tape : w'.tape = w.tape
  output : w'.output = w.output
  size : w.heap.size ≤ w'.heap.size
  st : ∀ b o c, stab G w b o c → stab G' w' b o c
  im : ∀ k, k < w.heap.size → (G.own k).ow = none → G'.own k = G.own k ∧ w'.heap[k]? = w.heap[k]?
  bx : ∀ (k : Nat) (g : Nat) (c : List V), os[k]? = some (.box g c) → G'.blk k = G.blk k
def CallOk (P : Program) (f : FuncId) : Prop := ∃ fn, P.funcs[f]? = some fn ∧ fn.body.isSome = true ∧ (fn.name == "runtime.NumGoroutine") = false
/-- a function's contract at arguments: its results; objects that are handed in (boxes, and what they lead to), as they are behind -/
structure Good (P : Program) [Env P] (f : FuncId) (args : List V) (os : List Ob) (res : List V) (os' : List Ob) : Prop where
  call : CallOk P f
  len : os.length ≤ os'.length
  okR : res.all (okA os'.length) = true
  okO' : os'.all (okO os'.length) = true
  kind : ∀ (k g : Nat) (c : List V), os[k]? = some (.box g c) → ∃ g' c', os'[k]? = some (.box g' c')
  run : ∀ (vs : Array Value) (w : World) (G : Gh), Cells (RA G w (tbl os)) args vs → (∀ (k : Nat) (o : Ob), os[k]? = some o → RO G w (tbl os) k o) → (∀ k, k < Env.ng P → k < w.heap.size ∧ (G.own k).ow = none) → Env.Z P w →
    Calls P f vs w fun e w' => ∃ rv G', e = .returned rv ∧ resRel G' w' (tbl os') res rv ∧ (∀ (k : Nat) (o : Ob), os'[k]? = some o → RO G' w' (tbl os') k o) ∧ Keep G w G' w' os
/-- an argument, as it may be handed -/
def shC (v : V) (k : V → Pr) : Pr := match v with
  | .own id gen => shK (.own id gen) k
  | .dead => .fail
  | .agg _ => .fail
  | .tup _ => .fail
  | .elp _ _ _ _ => .fail
  | .rp _ => .fail
  | v => k v
def shCL : List V → (List V → Pr) → Pr
  | [], k => k []
  | v :: vs, k => shC v fun p => shCL vs fun ps => k (p :: ps)
def shA (v : V) (k : V → Pr) : Pr := match v with
  | .agg l => shCL l fun l' => k (.agg l')
  | v => shC v k
/-- an argument, as it is handed: one's own slice as an object, where the function is one of those -/
def handA (b : Bool) (v : V) (k : V → Pr) : Pr := match v with
  | .own id gen => match b with
    | true => k (.own id gen)
    | false => shK (.own id gen) k
  | v => shA v k
def handAL (b : Bool) : List V → (List V → Pr) → Pr
  | [], k => k []
  | v :: vs, k => handA b v fun p => handAL b vs fun ps => k (p :: ps)
section
variable {P : Program} {nt : Nat} {o : Oper} {E : Ent} {a : Act} {w : World} {K : St → Prop}
theorem shC_ok {G : Gh} {s : St} {v : V} {k : V → Pr} {x : Value} (hR : RG E G s a w) (hx : RV G w s.O v x) (h : (shC v k).mwp s K) :
    ∃ G' s' p, RG E G' s' a w ∧ Le G w s.O G' w s'.O ∧ (∀ t, s'.V t = s.V t) ∧ (k p).mwp s' K ∧ RC G' w s'.O p x := by
  have cell : ∀ {p : V}, RV G w s.O p x → p ≠ .dead → (∀ l, p ≠ .agg l) → (∀ l, p ≠ .tup l) → (∀ a b c d, p ≠ .elp a b c d) → (∀ l, p ≠ .rp l) → RC G w s.O p x := by
    intro p hp h1 h2 h3 h4 h5
    cases hp with
    | dead => exact absurd rfl h1
    | any _ _ hp => exact hp.not_agg h2
    | tup l => exact absurd rfl (h3 l)
    | elp => exact absurd rfl (h4 _ _ _ _)
    | rp l => exact absurd rfl (h5 l)
  unfold shC at h
  split at h
  · obtain ⟨G', s', p, h1, h2, h3, h4, h5⟩ := shK_ok hR (cell hx (by simp) (by simp) (by simp) (by simp) (by simp)) h
    exact ⟨G', s', p, h1, h2, h3, h4, .sh _ _ h5⟩
  · exact h.elim
  · exact h.elim
  · exact h.elim
  · exact h.elim
  · exact h.elim
  · rename_i h0 h1 h2 h3 h4 h5
    exact ⟨G, s, v, hR, .refl, fun _ => rfl, h, cell hx (fun e => h1 e) (fun l e => h2 l e) (fun l e => h3 l e) (fun a b c d e => h4 a b c d e) (fun l e => h5 l e)⟩
theorem shCL_ok : ∀ {l : List V} {G : Gh} {s : St} {k : List V → Pr} {xs : List Value}, RG E G s a w → l.length = xs.length → (∀ (j : Nat) (p : V), l[j]? = some p → ∃ c, xs[j]? = some c ∧ RC G w s.O p c) → (shCL l k).mwp s K →
    ∃ G' s' ps, RG E G' s' a w ∧ Le G w s.O G' w s'.O ∧ (∀ t, s'.V t = s.V t) ∧ (k ps).mwp s' K ∧ ps.length = xs.length ∧ ∀ (j : Nat) (p : V), ps[j]? = some p → ∃ c, xs[j]? = some c ∧ RC G' w s'.O p c
  | [], G, s, k, xs, hR, hl, hc, h => ⟨G, s, [], hR, .refl, fun _ => rfl, h, hl, fun j p hj => by simp at hj⟩
  | v :: vs, G, s, k, xs, hR, hl, hc, h => by
    cases xs with
    | nil => simp at hl
    | cons x xs =>
      obtain ⟨c, h1, h2⟩ := hc 0 v rfl
      simp only [List.getElem?_cons_zero, Option.some.injEq] at h1; subst h1
      obtain ⟨G1, s1, p, hR1, hle1, hV1, h, hp⟩ := shC_ok hR (.any _ _ (.cell _ _ h2)) h
      obtain ⟨G2, s2, ps, hR2, hle2, hV2, h, hl2, hps⟩ := shCL_ok (xs := xs) hR1 (by simpa using hl) (fun j p hj => by
        obtain ⟨c, h3, h4⟩ := hc (j + 1) p (by simpa using hj)
        exact ⟨c, by simpa using h3, h4.mono hle1⟩) h
      refine ⟨G2, s2, p :: ps, hR2, hle1.trans hle2, fun t => (hV2 t).trans (hV1 t), h, by simp [hl2], fun j q hj => ?_⟩
      cases j with
      | zero => simp only [List.getElem?_cons_zero, Option.some.injEq] at hj; subst hj; exact ⟨x, rfl, hp.mono hle2⟩
      | succ j => obtain ⟨c, h3, h4⟩ := hps j q (by simpa using hj); exact ⟨c, by simpa using h3, h4⟩
theorem shA_ok {G : Gh} {s : St} {v : V} {k : V → Pr} {x : Value} (hR : RG E G s a w) (hx : RV G w s.O v x) (h : (shA v k).mwp s K) :
    ∃ G' s' p, RG E G' s' a w ∧ Le G w s.O G' w s'.O ∧ (∀ t, s'.V t = s.V t) ∧ (k p).mwp s' K ∧ RA G' w s'.O p x := by
  unfold shA at h
  split at h
  · rename_i l
    obtain ⟨cs, h1, h2⟩ := hx.agg_inv
    obtain ⟨G', s', ps, hR', hle, hV, h, hlen, hps⟩ := shCL_ok (xs := cs.toList) hR (by simpa using h2.1.symm) (fun j p hj => by simpa using h2.2 j p hj) h
    refine ⟨G', s', _, hR', hle, hV, h, ?_⟩
    rw [h1]
    exact .agg _ _ ⟨by simpa using hlen.symm, fun j p hj => by simpa using hps j p hj⟩
  · obtain ⟨G', s', p, h1, h2, h3, h4, h5⟩ := shC_ok hR hx h
    exact ⟨G', s', p, h1, h2, h3, h4, .cell _ _ h5⟩
theorem handA_ok {b : Bool} {G : Gh} {s : St} {v : V} {k : V → Pr} {x : Value} (hR : RG E G s a w) (hx : RV G w s.O v x) (h : (handA b v k).mwp s K) :
    ∃ G' s' p, RG E G' s' a w ∧ Le G w s.O G' w s'.O ∧ (∀ t, s'.V t = s.V t) ∧ (k p).mwp s' K ∧ RA G' w s'.O p x := by
  unfold handA at h
  split at h
  · split at h
    · refine ⟨G, s, _, hR, .refl, fun _ => rfl, h, .cell _ _ ?_⟩
      cases hx with
      | any _ _ hp => exact hp.not_agg (by simp)
    · exact shA_ok (v := .own _ _) hR hx h
  · exact shA_ok hR hx h
theorem handAL_ok {b : Bool} : ∀ {l : List V} {G : Gh} {s : St} {k : List V → Pr} {xs : List Value}, RG E G s a w → l.length = xs.length → (∀ (j : Nat) (p : V), l[j]? = some p → ∃ c, xs[j]? = some c ∧ RV G w s.O p c) → (handAL b l k).mwp s K →
    ∃ G' s' ps, RG E G' s' a w ∧ Le G w s.O G' w s'.O ∧ (∀ t, s'.V t = s.V t) ∧ (k ps).mwp s' K ∧ ps.length = xs.length ∧ ∀ (j : Nat) (p : V), ps[j]? = some p → ∃ c, xs[j]? = some c ∧ RA G' w s'.O p c
  | [], G, s, k, xs, hR, hl, hc, h => ⟨G, s, [], hR, .refl, fun _ => rfl, h, hl, fun j p hj => by simp at hj⟩
  | v :: vs, G, s, k, xs, hR, hl, hc, h => by
    cases xs with
    | nil => simp at hl
    | cons x xs =>
      obtain ⟨c, h1, h2⟩ := hc 0 v rfl
      simp only [List.getElem?_cons_zero, Option.some.injEq] at h1; subst h1
      obtain ⟨G1, s1, p, hR1, hle1, hV1, h, hp⟩ := handA_ok hR h2 h
      obtain ⟨G2, s2, ps, hR2, hle2, hV2, h, hl2, hps⟩ := handAL_ok (xs := xs) hR1 (by simpa using hl) (fun j p hj => by
        obtain ⟨c, h3, h4⟩ := hc (j + 1) p (by simpa using hj)
        exact ⟨c, by simpa using h3, h4.mono hle1⟩) h
      refine ⟨G2, s2, p :: ps, hR2, hle1.trans hle2, fun t => (hV2 t).trans (hV1 t), h, by simp [hl2], fun j q hj => ?_⟩
      cases j with
      | zero => simp only [List.getElem?_cons_zero, Option.some.injEq] at hj; subst hj; exact ⟨x, rfl, hp.mono hle2⟩
      | succ j => obtain ⟨c, h3, h4⟩ := hps j q (by simpa using hj); exact ⟨c, by simpa using h3, h4⟩
def mapK (f : V → V) : List V → (List V → Pr) → Pr
  | [], k => k []
  | v :: vs, k => forceV (f v) fun p => mapK f vs fun ps => k (p :: ps)
theorem mapK_eq (f : V → V) (l : List V) (k : List V → Pr) : mapK f l k = k (l.map f) := by
  induction l generalizing k with
  | nil => rfl
  | cons x xs ih => simp only [mapK, forceV_eq, ih, List.map_cons]
def renAK (ids : Ids) (v : V) (k : V → Pr) : Pr := match v with
  | .agg l => mapK (renC ids) l fun l' => k (.agg l')
  | v => forceV (renC ids v) k
theorem renAK_eq (ids : Ids) (v : V) (k : V → Pr) : renAK ids v k = k (renA ids v) := by
  cases v <;> simp only [renAK, renA, mapK_eq, forceV_eq]
def renALK (ids : Ids) : List V → (List V → Pr) → Pr
  | [], k => k []
  | v :: vs, k => renAK ids v fun p => renALK ids vs fun ps => k (p :: ps)
theorem renALK_eq (ids : Ids) (l : List V) (k : List V → Pr) : renALK ids l k = k (l.map (renA ids)) := by
  induction l generalizing k with
  | nil => rfl
  | cons x xs ih => simp only [renALK, renAK_eq, ih, List.map_cons]
def renOK (ids : Ids) (g : Nat) (o : Ob) (k : Ob → Pr) : Pr := match o with
  | .box _ cells => mapK (renC ids) cells fun l => k (.box g l)
  | .arr _ sh n xs => k (.arr g sh n xs)
theorem renOK_eq (ids : Ids) (g : Nat) (o : Ob) (k : Ob → Pr) : renOK ids g o k = k (renO ids g o) := by
  cases o <;> simp only [renOK, renO, mapK_eq]
/-- nil, where data is asked: no elements -/
def nilC (t v : V) : V := match v with
  | .nil => (match t with
    | .sl n _ => .sl n []
    | _ => .nil)
  | v => v
def nilCL : List V → List V → List V
  | t :: ts, v :: vs => nilC t v :: nilCL ts vs
  | _, vs => vs
def nilA (t v : V) : V := match v with
  | .agg m => (match t with
    | .agg l => .agg (nilCL l m)
    | _ => .agg m)
  | v => nilC t v
def nilAL : List V → List V → List V
  | t :: ts, v :: vs => nilA t v :: nilAL ts vs
  | _, vs => vs
theorem nilC_ok {G : Gh} {w : World} {O : Tb} {t v : V} {x : Value} (h : RC G w O v x) : RC G w O (nilC t v) x := by
  unfold nilC
  split
  · split
    · cases h with
      | sh _ _ h => cases h; exact .sh _ _ (.sl0 _ _ _)
    · exact h
  · exact h
theorem nilCL_ok {G : Gh} {w : World} {O : Tb} : ∀ {ts vs : List V} {xs : List Value}, vs.length = xs.length → (∀ (j : Nat) (p : V), vs[j]? = some p → ∃ c, xs[j]? = some c ∧ RC G w O p c) →
    (nilCL ts vs).length = xs.length ∧ ∀ (j : Nat) (p : V), (nilCL ts vs)[j]? = some p → ∃ c, xs[j]? = some c ∧ RC G w O p c
  | [], vs, xs, hl, h => by simpa [nilCL] using ⟨hl, h⟩
  | _ :: _, [], xs, hl, h => by simpa [nilCL] using hl
  | t :: ts, v :: vs, [], hl, h => by simp at hl
  | t :: ts, v :: vs, x :: xs, hl, h => by
    obtain ⟨h1, h2⟩ := nilCL_ok (ts := ts) (vs := vs) (xs := xs) (by simpa using hl) (fun j p hj => by
      obtain ⟨c, h3, h4⟩ := h (j + 1) p (by simpa using hj)
      exact ⟨c, by simpa using h3, h4⟩)
    refine ⟨by simp [nilCL, h1], fun j p hj => ?_⟩
    cases j with
    | zero =>
      simp only [nilCL, List.getElem?_cons_zero, Option.some.injEq] at hj
      subst hj
      obtain ⟨c, h3, h4⟩ := h 0 v rfl
      exact ⟨c, h3, nilC_ok h4⟩
    | succ j =>
      obtain ⟨c, h3, h4⟩ := h2 j p (by simpa [nilCL] using hj)
      exact ⟨c, by simpa using h3, h4⟩
theorem nilA_ok {G : Gh} {w : World} {O : Tb} {t v : V} {x : Value} (h : RA G w O v x) : RA G w O (nilA t v) x := by
  unfold nilA
  split
  · split
    · cases h with
      | cell _ _ h => cases h with
        | sh _ _ h => cases h
      | agg _ cs h =>
        obtain ⟨h1, h2⟩ := nilCL_ok (ts := by assumption) (xs := cs.toList) (by simpa using h.1.symm) (fun j p hj => by simpa using h.2 j p hj)
        exact .agg _ _ ⟨by simpa using h1.symm, fun j p hj => by simpa using h2 j p hj⟩
    · exact h
  · rename_i hn
    cases h with
    | cell _ _ h => exact .cell _ _ (nilC_ok h)
    | agg l cs h => exact absurd rfl (hn l)
theorem nilAL_ok {G : Gh} {w : World} {O : Tb} : ∀ {ts vs : List V} {xs : List Value}, vs.length = xs.length → (∀ (j : Nat) (p : V), vs[j]? = some p → ∃ c, xs[j]? = some c ∧ RA G w O p c) →
    (nilAL ts vs).length = xs.length ∧ ∀ (j : Nat) (p : V), (nilAL ts vs)[j]? = some p → ∃ c, xs[j]? = some c ∧ RA G w O p c
  | [], vs, xs, hl, h => by simpa [nilAL] using ⟨hl, h⟩
  | _ :: _, [], xs, hl, h => by simpa [nilAL] using hl
  | t :: ts, v :: vs, [], hl, h => by simp at hl
  | t :: ts, v :: vs, x :: xs, hl, h => by
    obtain ⟨h1, h2⟩ := nilAL_ok (ts := ts) (vs := vs) (xs := xs) (by simpa using hl) (fun j p hj => by
      obtain ⟨c, h3, h4⟩ := h (j + 1) p (by simpa using hj)
      exact ⟨c, by simpa using h3, h4⟩)
    refine ⟨by simp [nilAL, h1], fun j p hj => ?_⟩
    cases j with
    | zero =>
      simp only [nilAL, List.getElem?_cons_zero, Option.some.injEq] at hj
      subst hj
      obtain ⟨c, h3, h4⟩ := h 0 v rfl
      exact ⟨c, h3, nilA_ok h4⟩
    | succ j =>
      obtain ⟨c, h3, h4⟩ := h2 j p (by simpa [nilAL] using hj)
      exact ⟨c, by simpa using h3, h4⟩
/-- a call, as it is told -/
structure Rec where
  ids : Ids
  args : List V
  os : List Ob
  res : List V
  os' : List Ob
/-- the handed objects are in the table -/
def getsK (ids0 : Ids) : Ids → List Ob → Pr → Pr
  | (id, g) :: ids, o :: os, k => .getO id fun x => .ex PUnit (fun _ => x = some (renO ids0 g o)) fun _ => getsK ids0 ids os k
  | [], [], k => k
  | _, _, _ => .fail
theorem getsK_spec {ids0 : Ids} {s : St} {k : Pr} : ∀ {ids : Ids} {os : List Ob}, (getsK ids0 ids os k).mwp s K → ids.length = os.length ∧ (∀ (j : Nat) (o : Ob) (id g : Nat), os[j]? = some o → ids[j]? = some (id, g) → s.O id = some (renO ids0 g o)) ∧ k.mwp s K
  | [], [], h => ⟨rfl, fun j o id g hj => by simp at hj, h⟩
  | (id, g) :: ids, o :: os, h => by
    simp only [getsK, Pr.mwp] at h
    obtain ⟨_, h1, h⟩ := h
    obtain ⟨h2, h3, h4⟩ := getsK_spec h
    refine ⟨by simp [h2], fun j o' id' g' hj hi => ?_, h4⟩
    cases j with
    | zero => simp only [List.getElem?_cons_zero, Option.some.injEq, Prod.mk.injEq] at hj hi; rw [← hj, ← hi.1, ← hi.2]; exact h1
    | succ j => exact h3 j o' id' g' (by simpa using hj) (by simpa using hi)
  | [], _ :: _, h => h.elim
  | _ :: _, [], h => h.elim
/-- names for new objects -/
def newsK (b : Nat) : List Ob → (Ids → Pr) → Pr
  | [], k => k []
  | _ :: os, k => .getO b fun old => genK old fun g => newsK (b + 1) os fun ids => k ((b, g) :: ids)
theorem newsK_spec {s : St} : ∀ {os : List Ob} {b : Nat} {k : Ids → Pr}, (newsK b os k).mwp s K → ∃ ids : Ids, ids.length = os.length ∧ (∀ (j id g : Nat), ids[j]? = some (id, g) → id = b + j ∧ ∀ o, s.O id = some o → o.gen < g) ∧ (k ids).mwp s K
  | [], b, k, h => ⟨[], rfl, fun j id g hj => by simp at hj, h⟩
  | o :: os, b, k, h => by
    simp only [newsK, Pr.mwp] at h
    obtain ⟨g, hg, h⟩ := genK_spec h
    obtain ⟨ids, h1, h2, h3⟩ := newsK_spec h
    refine ⟨_, by simp [h1], fun j id g' hj => ?_, h3⟩
    cases j with
    | zero => simp only [List.getElem?_cons_zero, Option.some.injEq, Prod.mk.injEq] at hj; obtain ⟨rfl, rfl⟩ := hj; exact ⟨rfl, hg⟩
    | succ j => obtain ⟨h4, h5⟩ := h2 j id g' (by simpa using hj); exact ⟨by omega, h5⟩
def aft : Ids → List Ob → Ids
  | (id, g) :: ids, .box _ _ :: os => (id, g) :: aft ids os
  | (id, g) :: ids, .arr _ _ _ _ :: os => (id, g + 1) :: aft ids os
  | _, _ => []
theorem aft_spec : ∀ {ids : Ids} {os : List Ob}, ids.length = os.length → (aft ids os).length = os.length ∧ ∀ (j : Nat) (o : Ob) (id g : Nat), os[j]? = some o → ids[j]? = some (id, g) → (aft ids os)[j]? = some (id, match o with | .box _ _ => g | .arr _ _ _ _ => g + 1)
  | [], [], _ => ⟨rfl, fun j o id g hj => by simp at hj⟩
  | (id, g) :: ids, o :: os, h => by
    obtain ⟨h1, h2⟩ := aft_spec (ids := ids) (os := os) (by simpa using h)
    cases o with
    | box gb c =>
      refine ⟨by simp [aft, h1], fun j o' id' g' hj hi => ?_⟩
      cases j with
      | zero => simp only [List.getElem?_cons_zero, Option.some.injEq, Prod.mk.injEq] at hj hi; obtain ⟨rfl, rfl⟩ := hi; subst hj; rfl
      | succ j => exact h2 j o' id' g' (by simpa using hj) (by simpa using hi)
    | arr gb sh n xs =>
      refine ⟨by simp [aft, h1], fun j o' id' g' hj hi => ?_⟩
      cases j with
      | zero => simp only [List.getElem?_cons_zero, Option.some.injEq, Prod.mk.injEq] at hj hi; obtain ⟨rfl, rfl⟩ := hi; subst hj; rfl
      | succ j => exact h2 j o' id' g' (by simpa using hj) (by simpa using hi)
  | [], _ :: _, h => by simp at h
  | _ :: _, [], h => by simp at h
def putsK (ids0 : Ids) : Ids → List Ob → Pr → Pr
  | (id, g) :: ids, o :: os, k => renOK ids0 g o fun o' => .putO id o' (putsK ids0 ids os k)
  | _, _, k => k
def putAll (ids0 : Ids) : Ids → List Ob → St → St
  | (id, g) :: ids, o :: os, s => putAll ids0 ids os (s.putO id (renO ids0 g o))
  | _, _, s => s
theorem putsK_eq (ids0 : Ids) : ∀ (ids : Ids) (os : List Ob) (s : St) (k : Pr), (putsK ids0 ids os k).mwp s K = k.mwp (putAll ids0 ids os s) K
  | (id, g) :: ids, o :: os, s, k => by simp only [putsK, renOK_eq, Pr.mwp, putAll]; exact putsK_eq ids0 ids os _ k
  | [], _, _, _ => by simp [putsK, putAll]
  | _ :: _, [], _, _ => by simp [putsK, putAll]
theorem putAll_V (ids0 : Ids) : ∀ (ids : Ids) (os : List Ob) (s : St) (t : Nat), (putAll ids0 ids os s).V t = s.V t
  | (id, g) :: ids, o :: os, s, t => by simp only [putAll]; rw [putAll_V]; rfl
  | [], _, _, _ => by simp [putAll]
  | _ :: _, [], _, _ => by simp [putAll]
theorem putAll_out (ids0 : Ids) : ∀ (ids : Ids) (os : List Ob) (s : St) (id : Nat), (∀ (j a g : Nat), ids[j]? = some (a, g) → a ≠ id) → (putAll ids0 ids os s).O id = s.O id
  | (a, g) :: ids, o :: os, s, id, h => by
    simp only [putAll]
    rw [putAll_out ids0 ids os _ id (fun j b g' hj => h (j + 1) b g' (by simpa using hj)), St.O_putO, if_neg (h 0 a g rfl)]
  | [], _, _, _, _ => by simp [putAll]
  | _ :: _, [], _, _, _ => by simp [putAll]
theorem putAll_in (ids0 : Ids) : ∀ (ids : Ids) (os : List Ob) (s : St), Dist ids → ∀ (j id g : Nat) (o : Ob), ids[j]? = some (id, g) → os[j]? = some o → (putAll ids0 ids os s).O id = some (renO ids0 g o)
  | (a, g0) :: ids, o0 :: os, s, hd, j, id, g, o, hi, ho => by
    have hd' : Dist ids := fun i k x y hx hy e => by have := hd (i + 1) (k + 1) x y (by simpa using hx) (by simpa using hy) e; omega
    cases j with
    | zero =>
      simp only [List.getElem?_cons_zero, Option.some.injEq, Prod.mk.injEq] at hi ho
      obtain ⟨rfl, rfl⟩ := hi; subst ho
      simp only [putAll]
      rw [putAll_out ids0 ids os _ a (fun k b g' hk e => by have := hd 0 (k + 1) (a, g0) (b, g') rfl (by simpa using hk) e.symm; omega), St.O_putO, if_pos rfl]
    | succ j => simp only [putAll]; exact putAll_in ids0 ids os _ hd' j id g o (by simpa using hi) (by simpa using ho)
  | [], _, _, _, j, id, g, o, hi, ho => by simp at hi
  | _ :: _, [], _, _, j, id, g, o, hi, ho => by simp at ho
def distB (b : Nat) : Ids → Bool
  | [] => true
  | (id, _) :: ids => ids.all (fun p => !Nat.beq p.1 id) && (Nat.blt id b || Nat.ble (b + 64) id) && distB b ids
theorem distB_spec {b : Nat} : ∀ {ids : Ids}, distB b ids = true → Dist ids ∧ ∀ (j id g : Nat), ids[j]? = some (id, g) → id < b ∨ b + 64 ≤ id
  | [], _ => ⟨fun i j a b hi => by simp at hi, fun j id g hj => by simp at hj⟩
  | (id, g) :: ids, h => by
    simp only [distB, Bool.and_eq_true, Bool.or_eq_true] at h
    obtain ⟨⟨h1, h2⟩, h3⟩ := h
    obtain ⟨h4, h5⟩ := distB_spec h3
    have hne : ∀ (j : Nat) (b : Nat × Nat), ids[j]? = some b → b.1 ≠ id := fun j b hb e => by
      have := List.all_eq_true.1 h1 b (List.mem_of_getElem? hb)
      simp [e] at this
    refine ⟨fun i j x y hx hy e => ?_, fun j id' g' hj => ?_⟩
    · cases i with
      | zero =>
        cases j with
        | zero => rfl
        | succ j => simp only [List.getElem?_cons_zero, Option.some.injEq] at hx; subst hx; exact absurd e.symm (hne j y (by simpa using hy))
      | succ i =>
        cases j with
        | zero => simp only [List.getElem?_cons_zero, Option.some.injEq] at hy; subst hy; exact absurd e (hne i x (by simpa using hx))
        | succ j => rw [h4 i j x y (by simpa using hx) (by simpa using hy) e]
    · cases j with
      | zero => simp only [List.getElem?_cons_zero, Option.some.injEq, Prod.mk.injEq] at hj; rw [← hj.1]; exact h2.imp (fun h => by simpa using h) Nat.le_of_ble_eq_true
      | succ j => exact h5 j id' g' (by simpa using hj)
/-- the call of a function -/
def callK (P : Program) [Env P] (nt : Nat) (o : Oper) (f : FuncId) (avs : List V) : Pr := handAL (Env.hand P f) avs fun avs' => match o.dst with
  | none => .fail
  | some d => .ex Rec (fun r => Good P f r.args r.os r.res r.os' ∧ r.args.map (renA r.ids) = nilAL r.args avs' ∧ r.args.all (okA r.os.length) = true ∧ r.os.all (okO r.os.length) = true) fun r => match distB (1024 + 64 * d) r.ids with
    | false => .fail
    | true => getsK r.ids r.ids r.os (force (r.os'.drop r.os.length) fun nw => newsK (1024 + 64 * d) nw fun ns => force (aft r.ids r.os ++ ns) fun ids' => match Nat.ble nw.length 64 with
      | false => .fail
      | true => putsK ids' ids' r.os' (match r.res with
        | [p] => renAK ids' p fun q => setD nt (some d) q .done
        | ps => renALK ids' ps fun qs => setD nt (some d) (.tup qs) .done))
end
end Go.PV
namespace Go.PV
open Go Go.RowKit
section
variable {P : Program} {nt : Nat} {o : Oper} {E : Ent} {a : Act} {w : World} {K : St → Prop}
theorem Dist.app {ids ns : Ids} {b : Nat} (h1 : Dist ids) (h2 : ∀ (j id g : Nat), ids[j]? = some (id, g) → id < b ∨ b + 64 ≤ id) (h3 : ∀ (j id g : Nat), ns[j]? = some (id, g) → id = b + j) (h4 : ns.length ≤ 64) : Dist (ids ++ ns) := by
  intro i j x y hi hj e
  rw [List.getElem?_append] at hi hj
  split at hi <;> split at hj
  · exact h1 i j x y hi hj e
  · have q1 := h2 i x.1 x.2 hi
    have q2 := h3 _ y.1 y.2 hj
    have := (List.getElem?_eq_some_iff.1 hj).1
    omega
  · have q1 := h2 j y.1 y.2 hj
    have q2 := h3 _ x.1 x.2 hi
    have := (List.getElem?_eq_some_iff.1 hi).1
    omega
  · have q1 := h3 _ x.1 x.2 hi
    have q2 := h3 _ y.1 y.2 hj
    omega
/-- behind a call: the caller's ghost and table -/
theorem call_back {G G' : Gh} {s : St} {w' : World} {ids ids' : Ids} {os os' : List Ob} (hR : RG E G s a w) (hN : Named ids os s.O) (hd' : Dist ids')
    (hlen : ids'.length = os'.length)
    (hin : ∀ (j : Nat) (o : Ob) (id g : Nat), os[j]? = some o → ids[j]? = some (id, g) → ids'[j]? = some (id, match o with | .box _ _ => g | .arr _ _ _ _ => g + 1))
    (hnew : ∀ (j id g : Nat), os.length ≤ j → ids'[j]? = some (id, g) → 64 ≤ id ∧ ∀ o, s.O id = some o → o.gen < g)
    (hok : ∀ o ∈ os', okO os'.length o = true) (hkind : ∀ (k g : Nat) (c : List V), os[k]? = some (.box g c) → ∃ g' c', os'[k]? = some (.box g' c'))
    (hro : ∀ (k : Nat) (o : Ob), os'[k]? = some o → RO G' w' (tbl os') k o) (hk : Keep (downG ids G) w G' w' os) :
    ∃ Gn, RG E Gn (putAll ids' ids' os' s) a w' ∧ ∀ p v, RA G' w' (tbl os') p v → okA os'.length p = true → RA Gn w' (putAll ids' ids' os' s).O (renA ids' p) v := by
  have hN' : Named ids' os' (putAll ids' ids' os' s).O := ⟨hlen, fun k o id g ho hi => putAll_in ids' ids' os' s hd' k id g o hi ho⟩
  let Gn := upG ids' w.heap.size G (downG ids G) G'
  have hs : ∀ b o c, stab G' w' b o c → stab Gn w' b o c := by
    intro b off c h
    refine ⟨fun l hl => h.1 l ?_, h.2⟩
    simp only [Gn, upG] at hl
    split at hl
    · rename_i hc
      rw [(hk.im b hc.1 hc.2).1]; exact hl
    · exact hl
  have hst : ∀ b o c, stab G w b o c → stab Gn w' b o c := fun b off c h => hs _ _ _ (hk.st _ _ _ h)
  have hb : ∀ (k id g : Nat), ids'[k]? = some (id, g) → Gn.blk id = G'.blk k ∧ Gn.cap id = G'.cap k ∧ Gn.isnil id = G'.isnil k := by
    intro k id g h
    simp only [Gn, upG, find_of hd' h]
    exact ⟨trivial, trivial, trivial⟩
  have hout : ∀ id, find ids' id = none → Gn.blk id = G.blk id ∧ Gn.cap id = G.cap id ∧ Gn.isnil id = G.isnil id := by
    intro id h
    simp only [Gn, upG, h]
    exact ⟨trivial, trivial, trivial⟩
  have hnone : ∀ id, find ids' id = none → (∀ (j b g : Nat), ids'[j]? = some (b, g) → b ≠ id) := by
    intro id h j b g hj e
    subst e
    rw [find_of hd' hj] at h; cases h
  have hfold : ∀ id, find ids' id = none → find ids id = none := by
    intro id h
    cases hf : find ids id with
    | none => rfl
    | some k =>
      obtain ⟨g, hg⟩ := find_some hf
      have hko : k < os.length := by rw [← hN.1]; exact (List.getElem?_eq_some_iff.1 hg).1
      exact absurd rfl (hnone id h k id _ (hin k _ id g (List.getElem?_eq_getElem hko) hg))
  have hown : ∀ k id g l, ids'[k]? = some (id, g) → G'.own (G'.blk k) = ⟨some k, l⟩ → Gn.own (G'.blk k) = ⟨some id, l⟩ := by
    intro k id g l hi e
    simp only [Gn, upG]
    rw [if_neg]
    · rw [e]; simp [hi]
    · intro ⟨c1, c2⟩
      have := (hk.im _ c1 c2).1
      rw [e] at this
      rw [← this] at c2; cases c2
  have kept : ∀ b, b < w.heap.size → (G.own b).ow = none ∨ (∃ id, (G.own b).ow = some id ∧ find ids id = none) → Gn.own b = G.own b ∧ w'.heap[b]? = w.heap[b]? := by
    intro b hlt h
    have hc : ((downG ids G).own b).ow = none := by
      simp only [downG]
      rcases h with h | ⟨id, h, h2⟩
      · rw [h]; rfl
      · rw [h]; simpa using h2
    exact ⟨by simp only [Gn, upG]; rw [if_pos ⟨hlt, hc⟩], (hk.im b hlt hc).2⟩
  have hin' : ∀ k, k < os.length → ∃ id g o, ids[k]? = some (id, g) ∧ os[k]? = some o ∧ s.O id = some (renO ids g o) := by
    intro k hko
    have h1 := List.getElem?_eq_getElem (show k < ids.length from by rw [hN.1]; exact hko)
    have h2 := List.getElem?_eq_getElem hko
    exact ⟨_, _, _, h1, h2, hN.2 k _ _ _ h2 h1⟩
  have hle' : Le G w s.O Gn w' (putAll ids' ids' os' s).O := by
    refine ⟨hst, fun id o ho => ?_⟩
    cases hf : find ids' id with
    | none =>
      obtain ⟨e1, e2, e3⟩ := hout id hf
      exact ⟨o, by rw [putAll_out ids' ids' os' s id (hnone id hf)]; exact ho, .inr ⟨rfl, rfl, e1.symm, fun _ => ⟨e2.symm, e3.symm⟩⟩⟩
    | some k =>
      obtain ⟨g', hg'⟩ := find_some hf
      have hk' : k < os'.length := by rw [← hlen]; exact (List.getElem?_eq_some_iff.1 hg').1
      have ho' := List.getElem?_eq_getElem hk'
      refine ⟨_, putAll_in ids' ids' os' s hd' k id g' _ hg' ho', ?_⟩
      rw [renO_gen, renO_sig]
      by_cases hko : k < os.length
      · obtain ⟨id2, g, oo, h1, h2, h3⟩ := hin' k hko
        have h4 := hin k oo id2 g h2 h1
        rw [hg'] at h4
        simp only [Option.some.injEq, Prod.mk.injEq] at h4
        obtain ⟨rfl, h4⟩ := h4
        rw [ho] at h3
        cases h3
        cases oo with
        | arr gb sh n xs => exact .inl (by rw [renO_gen, h4]; exact Nat.lt_succ_self _)
        | box gb c =>
          obtain ⟨g1, c1, h5⟩ := hkind k _ _ h2
          rw [h5] at ho'
          refine .inr ⟨by rw [renO_gen, h4], ?_, ?_, fun e => absurd rfl e⟩
          · rw [← Option.some.inj ho']; rfl
          · rw [(hb k id g' hg').1, hk.bx k gb c h2]; simp only [downG, getD_ids h1]
      · exact .inl ((hnew k id g' (by omega) hg').2 o ho)
  refine ⟨Gn, hR.upd (fun t => putAll_V ids' ids' os' s t) hle' (fun id o ho => ?_) (hR.fr.trans hk.sys hk.tape hk.output hk.size hst (fun b hlt hn => kept b hlt (.inl hn)) (fun id hid hbx => ?_)) (fun id b hbx => ?_), fun p v h hp => upA hN' hs hb hok h hp⟩
  · cases hf : find ids' id with
    | none =>
      rw [putAll_out ids' ids' os' s id (hnone id hf)] at ho
      obtain ⟨e1, e2, e3⟩ := hout id hf
      refine (hR.ob id o ho).mono hle' e1.symm e2.symm e3.symm (fun hn => ?_)
      obtain ⟨q1, q2⟩ := (hR.ob id o ho).blk_lt hn
      have := kept _ q1 (.inr ⟨id, q2, hfold id hf⟩)
      exact ⟨this.2, this.1⟩
    | some k =>
      obtain ⟨g', hg'⟩ := find_some hf
      have hk' : k < os'.length := by rw [← hlen]; exact (List.getElem?_eq_some_iff.1 hg').1
      have ho' := List.getElem?_eq_getElem hk'
      rw [putAll_in ids' ids' os' s hd' k id g' _ hg' ho'] at ho
      cases ho
      exact upO hN' hs hb hok ho' hg' (fun l e => hown k id g' l hg' e) (hro k _ ho')
  · cases hf : find ids' id with
    | none => exact (hout id hf).1
    | some k =>
      obtain ⟨g', hg'⟩ := find_some hf
      obtain ⟨b, hbx⟩ := hbx
      by_cases hko : k < os.length
      · obtain ⟨id2, g, oo, h1, h2, h3⟩ := hin' k hko
        have h4 := hin k oo id2 g h2 h1
        rw [hg'] at h4
        simp only [Option.some.injEq, Prod.mk.injEq] at h4
        obtain ⟨rfl, h4⟩ := h4
        obtain ⟨gb, cb, h5⟩ := hR.bxs id b hbx
        rw [h5] at h3
        cases oo with
        | arr => cases h3
        | box gb' c => rw [(hb k id g' hg').1, hk.bx k gb' c h2]; simp only [downG, getD_ids h1]
      · have := (hnew k id g' (by omega) hg').1; omega
  · cases hf : find ids' id with
    | none => exact .inl (putAll_out ids' ids' os' s id (hnone id hf))
    | some k =>
      obtain ⟨g', hg'⟩ := find_some hf
      by_cases hko : k < os.length
      · obtain ⟨id2, g, oo, h1, h2, h3⟩ := hin' k hko
        have h4 := hin k oo id2 g h2 h1
        rw [hg'] at h4
        simp only [Option.some.injEq, Prod.mk.injEq] at h4
        obtain ⟨rfl, h4⟩ := h4
        obtain ⟨gb, cb, h5⟩ := hR.bxs id b hbx
        rw [h5] at h3
        cases oo with
        | arr => cases h3
        | box gb' c =>
          obtain ⟨g1, c1, h6⟩ := hkind k _ _ h2
          exact .inr ⟨_, _, putAll_in ids' ids' os' s hd' k id g' _ hg' h6⟩
      · have h1 := (hnew k id g' (by omega) hg').1
        have h2 := (hR.fr.bx id b hbx).1
        omega
theorem callK_ok [Env P] {G : Gh} {s : St} {next : Act → World → Prop} {Q : Exit → Act → World → Prop} {f : FuncId} {avs : List V} {vs : Array Value} (hnt : E.ok P nt) (hR : RG E G s a w) (hn : ∀ s' a' w', K s' → R E s' a' w' → next a' w') (h : (callK P nt o f avs).mwp s K)
    (hvs : Cells (RV G w s.O) avs vs) (hrun : CallOk P f → (execOp a.eval o).run P w = .ok (.enter f vs) w) : o.wp P a w next Q := by
  unfold callK at h
  obtain ⟨G1, s1, avs', hR1, hle1, hV1, h, hlen, hav⟩ := handAL_ok (xs := vs.toList) hR (by simpa using hvs.1.symm) (fun j p hj => by simpa using hvs.2 j p hj) h
  split at h
  · exact h.elim
  rename_i d hd
  obtain ⟨r, ⟨hg, hmap, hokA, hokO⟩, h⟩ := h
  dsimp only at h
  split at h
  · exact h.elim
  rename_i hdist
  obtain ⟨hdi, hfar⟩ := distB_spec hdist
  obtain ⟨h1, h2, h⟩ := getsK_spec h
  have hN : Named r.ids r.os s1.O := ⟨h1, h2⟩
  rw [force_eq] at h
  obtain ⟨ns, hns1, hns2, h⟩ := newsK_spec h
  rw [force_eq] at h
  split at h
  · exact h.elim
  rename_i hsmall
  have hsmall := Nat.le_of_ble_eq_true hsmall
  rw [putsK_eq] at h
  obtain ⟨ha1, ha2⟩ := aft_spec h1
  have hokO := fun o ho => List.all_eq_true.1 hokO o ho
  have hcall := hrun hg.call
  have hargs : Cells (RA (downG r.ids G1) w (tbl r.os)) r.args vs := by
    refine Cells.map_down (R := RA G1 w s1.O) (f := renA r.ids) (q := okA r.os.length) (fun p v => downA hN hokO) ?_ hokA
    rw [hmap]
    obtain ⟨q1, q2⟩ := nilAL_ok (ts := r.args) hlen hav
    exact ⟨by simpa using q1.symm, fun j p hj => by simpa using q2 j p hj⟩
  have hros : ∀ (k : Nat) (o : Ob), r.os[k]? = some o → RO (downG r.ids G1) w (tbl r.os) k o := by
    intro k ob hk
    obtain ⟨id, g, o2, e1, e2, e3, _⟩ := hN.at_ hokO (List.getElem?_eq_some_iff.1 hk).1
    rw [hk] at e2; cases e2
    exact downO hN hdi hokO hk e1 (hR1.ob id _ e3)
  unfold Oper.wp
  rw [hcall]
  simp only [Oper.upon]
  obtain ⟨henv, hz⟩ := hR1.fr.env hnt
  refine (hg.run vs w _ hargs hros (fun k hk => ⟨(henv k hk).1, by simp only [downG]; rw [(henv k hk).2]; rfl⟩) hz).mono ?_
  rintro e w' ⟨rv, G', rfl, hres, hro', hk⟩
  dsimp only
  have hblen : (aft r.ids r.os ++ ns).length = r.os'.length := by
    rw [List.length_append, ha1, hns1, List.length_drop]; have := hg.len; omega
  have hd' : Dist (aft r.ids r.os ++ ns) := by
    refine Dist.app (b := 1024 + 64 * d) ?_ ?_ (fun j id g hj => (hns2 j id g hj).1) (by rw [hns1]; exact hsmall)
    · intro i j x y hi hj e
      have hi' := (List.getElem?_eq_some_iff.1 hi).1
      have hj' := (List.getElem?_eq_some_iff.1 hj).1
      rw [ha1] at hi' hj'
      obtain ⟨id1, g1, o1, q1, q2, _⟩ := hN.at_ hokO hi'
      obtain ⟨id2, g2, o2, q3, q4, _⟩ := hN.at_ hokO hj'
      have e1 := ha2 i o1 id1 g1 q2 q1
      have e2 := ha2 j o2 id2 g2 q4 q3
      rw [hi] at e1; rw [hj] at e2
      simp only [Option.some.injEq] at e1 e2
      rw [e1, e2] at e
      exact hdi i j _ _ q1 q3 e
    · intro j id g hj
      have hj' := (List.getElem?_eq_some_iff.1 hj).1
      rw [ha1] at hj'
      obtain ⟨id2, g2, o2, q3, q4, _⟩ := hN.at_ hokO hj'
      have e2 := ha2 j o2 id2 g2 q4 q3
      rw [hj] at e2
      simp only [Option.some.injEq, Prod.mk.injEq] at e2
      rw [e2.1]; exact hfar j id2 g2 q3
  obtain ⟨Gn, hRn, hup⟩ := call_back (ids' := aft r.ids r.os ++ ns) hR1 hN hd' hblen
    (fun j o id g ho hi => by rw [List.getElem?_append_left (by rw [ha1]; exact (List.getElem?_eq_some_iff.1 ho).1)]; exact ha2 j o id g ho hi)
    (fun j id g hj hi => by
      rw [List.getElem?_append_right (by rw [ha1]; exact hj)] at hi
      obtain ⟨e1, e2⟩ := hns2 _ id g hi
      exact ⟨by omega, e2⟩)
    (fun o ho => List.all_eq_true.1 hg.okO' o ho) hg.kind hro' hk
  have hokR := fun p hp => List.all_eq_true.1 hg.okR p hp
  split at h
  · rename_i p hp
    rw [renAK_eq] at h
    rw [hp] at hres hokR
    obtain ⟨s', hk', hR2⟩ := setD_put hnt hRn (.any _ _ (hup p rv hres (hokR p (by simp)))) h
    exact hn _ _ _ hk' (by rw [hd]; exact ⟨_, hR2⟩)
  · rename_i hp
    rw [renALK_eq] at h
    have hres' : ∃ vs, rv = .tuple vs ∧ Cells (RA G' w' (tbl r.os')) r.res vs := by
      unfold resRel at hres; split at hres
      · rename_i p e; exact absurd e (hp p)
      · exact hres
    obtain ⟨rvs, rfl, hc⟩ := hres'
    have hall : r.res.all (okA r.os'.length) = true := hg.okR
    obtain ⟨s', hk', hR2⟩ := setD_put hnt hRn (.tup _ _ (hc.map_up (q := okA r.os'.length) hup hall)) h
    exact hn _ _ _ hk' (by rw [hd]; exact ⟨_, hR2⟩)
end
end Go.PV
namespace Go.PV
open Go Go.RowKit Go.MapKept
/-! maps -/
section
variable {α : Type} [DecidableEq α]
def mget (u : α) : List (α × Sc) → Option Sc
  | [] => none
  | (k, v) :: r => match decide (u = k) with
    | true => some v
    | false => mget u r
def mset (u : α) (x : Sc) : List (α × Sc) → List (α × Sc)
  | [] => [(u, x)]
  | (k, v) :: r => match decide (u = k) with
    | true => (u, x) :: r
    | false => (k, v) :: mset u x r
theorem rel_find {κ : α → Value} {d : TypeDesc} (hs : ∀ a b, Instr.sameNow d (κ a) (κ b) = some (decide (a = b))) (u : α) : ∀ {l : List (α × Sc)} {es : List MapEntry} (n : Nat), RelL κ l es →
    (Instr.findNow d (κ u) es n = some none ∧ mget u l = none ∧ ∀ x, mset u x l = l ++ [(u, x)]) ∨
    ∃ j e c, Instr.findNow d (κ u) es n = some (some (n + j, e.val)) ∧ es[j]? = some e ∧ e.key = κ u ∧ e.val = c.vl ∧ mget u l = some c ∧ ∀ x, mset u x l = l.set j (u, x)
  | [], [], n, _ => .inl ⟨rfl, rfl, fun _ => rfl⟩
  | [], _ :: _, _, h => h.elim
  | _ :: _, [], _, h => h.elim
  | (k, v) :: l, e :: es, n, ⟨h1, h2, h3⟩ => by
    unfold Instr.findNow mget
    rw [h1, hs]
    cases hd : decide (u = k) with
    | true =>
      have := of_decide_eq_true hd
      subst this
      refine .inr ⟨0, e, v, rfl, rfl, h1, h2, rfl, fun x => ?_⟩
      rw [mset, hd]; rfl
    | false =>
      rcases rel_find hs u (n + 1) h3 with ⟨a1, a2, a3⟩ | ⟨j, e', c, a1, a2, a3, a4, a5, a6⟩
      · refine .inl ⟨a1, a2, fun x => ?_⟩
        rw [mset, hd, a3 x]; rfl
      · refine .inr ⟨j + 1, e', c, by dsimp only; rw [a1, Nat.add_assoc, Nat.add_comm 1 j], a2, a3, a4, a5, fun x => ?_⟩
        rw [mset, hd, a6 x]; rfl
omit [DecidableEq α] in
theorem rel_app {κ : α → Value} {u : α} {x : Sc} {e : MapEntry} (h1 : e.key = κ u) (h2 : e.val = x.vl) : ∀ {l : List (α × Sc)} {es : List MapEntry}, RelL κ l es → RelL κ (l ++ [(u, x)]) (es ++ [e])
  | [], [], _ => ⟨h1, h2, trivial⟩
  | [], _ :: _, h => h.elim
  | _ :: _, [], h => h.elim
  | _ :: _, _ :: _, ⟨h3, h4, h5⟩ => ⟨h3, h4, rel_app h1 h2 h5⟩
omit [DecidableEq α] in
theorem rel_set {κ : α → Value} {u : α} {x : Sc} {f : MapEntry → MapEntry} (h1 : ∀ e, (f e).key = κ u) (h2 : ∀ e, (f e).val = x.vl) : ∀ {l : List (α × Sc)} {es : List MapEntry} (j : Nat), RelL κ l es → RelL κ (l.set j (u, x)) (es.modify j f)
  | [], [], j, _ => by cases j <;> exact trivial
  | [], _ :: _, _, h => h.elim
  | _ :: _, [], _, h => h.elim
  | _ :: _, e :: _, 0, ⟨_, _, h5⟩ => ⟨h1 e, h2 e, h5⟩
  | _ :: _, _ :: _, j + 1, ⟨h3, h4, h5⟩ => ⟨h3, h4, rel_set h1 h2 j h5⟩
end
theorem same_s (a b : List UInt8) : Instr.sameNow .string (kS a) (kS b) = some (decide (a = b)) := by
  have : ((⟨a.toArray⟩ : ByteArray) == ⟨b.toArray⟩) = decide (a = b) := by
    rw [Bool.eq_iff_iff, bytes_beq]; simp
  show some _ = _
  rw [this]
theorem same_i (a b : Int) : Instr.sameNow (.int .i64) (kI a) (kI b) = some (decide (a = b)) := by
  have : (a == b) = decide (a = b) := by rw [Bool.eq_iff_iff]; simp
  show (if IntKind.i64 = IntKind.i64 then some (a == b) else none) = _
  rw [if_pos rfl, this]
def scK (v : V) (k : Sc → Pr) : Pr := match v with
  | .int i n => k (.int i n)
  | .bool b => k (.bool b)
  | .str l => k (.str l)
  | _ => .fail
theorem scK_ok {G : Gh} {s : St} {w : World} {K : St → Prop} {v : V} {k : Sc → Pr} {x : Value} (hx : RV G w s.O v x) (h : (scK v k).mwp s K) : ∃ c : Sc, x = c.vl ∧ (k c).mwp s K := by
  unfold scK at h
  split at h
  · exact ⟨.int _ _, hx.int_inv, h⟩
  · exact ⟨.bool _, hx.bool_inv, h⟩
  · exact ⟨.str _, hx.str_inv, h⟩
  · exact h.elim
def scV (c : Sc) (k : V → Pr) : Pr := match c with
  | .int i n => k (.int i n)
  | .bool b => k (.bool b)
  | .str l => k (.str l)
theorem scV_ok {G : Gh} {s : St} {w : World} {K : St → Prop} {c : Sc} {k : V → Pr} (h : (scV c k).mwp s K) : ∃ p, (k p).mwp s K ∧ RC G w s.O p c.vl := by
  cases c with
  | int i n => exact ⟨_, h, .sh _ _ (.int _ _)⟩
  | bool b => exact ⟨_, h, .sh _ _ (.bool _)⟩
  | str l => exact ⟨_, h, .sh _ _ (.str _)⟩
/-- a map's data -/
def mapOK (id gen : Nat) (k : MD → Pr) : Pr := .getO id fun o => match o with
  | some (.box g cells) => match Nat.beq g gen with
    | true => match cells with
      | [.md d] => k d
      | _ => .fail
    | false => .fail
  | _ => .fail
theorem mapOK_spec {id gen : Nat} {k : MD → Pr} {s : St} {K : St → Prop} (h : (mapOK id gen k).mwp s K) : ∃ d, s.O id = some (.box gen [.md d]) ∧ (k d).mwp s K := by
  simp only [mapOK, Pr.mwp] at h
  split at h
  · rename_i g cells e
    split at h
    · rename_i hg
      have hg := Nat.eq_of_beq_eq_true hg
      subst hg
      split at h
      · exact ⟨_, e, h⟩
      · exact h.elim
    · exact h.elim
  · exact h.elim
theorem RC.md_no {G : Gh} {w : World} {O : Tb} {d : MD} {v : Value} (h : RC G w O (.md d) v) : False := by
  cases h with
  | sh _ _ h => cases h
theorem RG.map_obj {E : Ent} {G : Gh} {s : St} {a : Act} {w : World} (h : RG E G s a w) {id gen : Nat} {d : MD} (ho : s.O id = some (.box gen [.md d])) : ∃ es clock, w.heap[G.blk id]? = some (.map es clock) ∧ G.own (G.blk id) = ⟨some id, some 0⟩ ∧ MapR d es := by
  cases h.ob id _ ho with
  | box _ _ cs T hb hw hc => obtain ⟨c, _, h2⟩ := hc.2 0 _ rfl; exact h2.md_no.elim
  | mp _ _ es clock hb hw hm => exact ⟨es, clock, hb, hw, hm⟩
theorem RV.mp_inv {G : Gh} {w : World} {O : Tb} {id gen : Nat} {v : Value} {cells : List V} (h : RV G w O (.mp id gen) v) (ho : O id = some (.box gen cells)) : v = .map (some (G.blk id)) := by
  cases h with | any _ _ h => cases h with | cell _ _ h => cases h with
    | sh _ _ h => cases h
    | mp _ _ o _ _ ho' _ hv => rw [ho] at ho'; cases ho'; exact hv rfl rfl
section
variable {P : Program} {nt : Nat} {o : Oper}
/-- a key's type -/
def keyK (P : Program) (t : TypeId) (k : Bool → TypeId → Pr) : Pr := match P.underlying t with
  | some (.map kt et) => match P.underlying kt with
    | some .string => k true et
    | some (.int .i64) => k false et
    | _ => .fail
  | _ => .fail
theorem keyK_spec {t : TypeId} {k : Bool → TypeId → Pr} {s : St} {K : St → Prop} (h : (keyK P t k).mwp s K) : ∃ kt et b, P.underlying t = some (.map kt et) ∧ P.underlying kt = some (if b then .string else .int .i64) ∧ (k b et).mwp s K := by
  unfold keyK at h
  split at h
  · rename_i kt et ht
    split at h
    · rename_i hk; exact ⟨kt, et, true, ht, hk, h⟩
    · rename_i hk; exact ⟨kt, et, false, ht, hk, h⟩
    · exact h.elim
  · exact h.elim
def resvK : Option Operand → Pr → Pr
  | none, k => k
  | some x, k => rdV x fun v => match v with
    | .int _ _ => k
    | _ => .fail
def mkMapK (nt : Nat) (o : Oper) (b : Bool) : Pr := match b with
  | true => newK nt o (fun g => .box g [.md (.s [])]) fun id g => .mp id g
  | false => newK nt o (fun g => .box g [.md (.i [])]) fun id g => .mp id g
def prMake (P : Program) (nt : Nat) (o : Oper) (t : TypeId) (r : Option Operand) : Pr := keyK P t fun b _ => resvK r (mkMapK nt o b)
theorem prMake_ok [Env P] {t : TypeId} {r : Option Operand} (ho : o.op = .makeMap t r) : OpS P nt o (prMake P nt o t r) := by
  intro E G s a w K next Q hnt hR hm hn
  obtain ⟨kt, et, b, h1, h2, hm⟩ := keyK_spec hm
  have fin : ∀ d : MD, MapR d #[] → (newK nt o (fun g => .box g [.md d]) fun id g => .mp id g).mwp s K → (execOp a.eval o).run P w = .ok (.value (.map (some w.heap.size))) { w with heap := w.heap.push (.map #[] 0) } → o.wp P a w next Q := fun d hd hm hrun =>
    newK_ok (w' := { w with heap := w.heap.push (.map #[] 0) }) (b := .map #[] 0) (v := .map (some w.heap.size)) (cap := 0) hnt hR hn hm hrun (fun _ => rfl) rfl rfl rfl rfl
      (fun id s' _ hle g _ => .mp _ _ #[] 0 (by simp [newG, upd_same]) (by simp [newG, upd_same]) hd)
      (fun id g s' h => .any _ _ (.cell _ _ (.mp _ _ _ _ rfl h (Nat.le_refl _) fun _ _ => by simp [newG, upd_same])))
  have run : (execOp a.eval o).run P w = .ok (.value (.map (some w.heap.size))) { w with heap := w.heap.push (.map #[] 0) } ∧ (mkMapK nt o b).mwp s K := by
    cases r with
    | none => exact ⟨by simp only [execOp, ho]; rfl, hm⟩
    | some x =>
      simp only [resvK, rdV_mwp] at hm
      have hx := ev_sound hR x
      split at hm
      · rename_i i n e
        rw [e] at hx
        refine ⟨?_, hm⟩
        simp only [execOp, ho, Instr.makeMap, Option.map_some, hx.int_inv, Sem.run_bind, run_underlying h1, Result.andThen_ok, asInt, asIntOf, Sem.run_pure]
        rfl
      · exact hm.elim
  obtain ⟨hrun, hm⟩ := run
  cases b with
  | true => exact fin (.s []) trivial hm hrun
  | false => exact fin (.i []) trivial hm hrun
/-- the zero of a type of one cell -/
def zeroV1 (P : Program) (t : TypeId) (k : V → Pr) : Pr := match P.toTables.info? t with
  | none => .fail
  | some i => match i.zero with
    | none => .fail
    | some z => match z.oneCell' with
      | true => ofCK z k
      | false => .fail
theorem zeroV1_spec {t : TypeId} {k : V → Pr} {s : St} {K : St → Prop} (h : (zeroV1 P t k).mwp s K) : ∃ z p, (∀ w, (zeroValue t).run P w = .ok z w) ∧ (∀ G w O, RC G w O p z) ∧ (k p).mwp s K := by
  unfold zeroV1 at h
  split at h
  · exact h.elim
  · rename_i i hi
    split at h
    · exact h.elim
    · rename_i z hz
      split at h
      · rename_i h1
        rw [ofCK_eq] at h
        exact ⟨z, _, fun w => by simp [zeroValue, typeInfo, hi, hz], fun G w O => ofC_sound z h1, h⟩
      · exact h.elim
def gotK (P : Program) (nt : Nat) (o : Oper) (et : TypeId) (ok : Bool) (r : Option Sc) : Pr := match r with
  | some c => scV c fun p => match ok with
    | true => setD nt o.dst (.tup [p, .bool true]) .done
    | false => setD nt o.dst p .done
  | none => zeroV1 P et fun p => match ok with
    | true => setD nt o.dst (.tup [p, .bool false]) .done
    | false => setD nt o.dst p .done
def prLook (P : Program) (nt : Nat) (o : Oper) (t : TypeId) (x ix : Operand) (ok : Bool) : Pr := rdV x fun v => rdV ix fun u => keyK P t fun b et => match v with
  | .mp id gen => mapOK id gen fun d => match b, d, u with
    | true, .s l, .str k => gotK P nt o et ok (mget k l)
    | false, .i l, .int .i64 k => gotK P nt o et ok (mget k l)
    | _, _, _ => .fail
  | _ => .fail
theorem prLook_ok [Env P] {t : TypeId} {x ix : Operand} {ok : Bool} (ho : o.op = .lookup t x ix ok) : OpS P nt o (prLook P nt o t x ix ok) := by
  refine .pure fun E G s a w K hR hm => ?_
  simp only [prLook, rdV_mwp] at hm
  have hx := ev_sound hR x
  have hi := ev_sound hR ix
  obtain ⟨kt, et, b, h1, h2, hm⟩ := keyK_spec hm
  split at hm
  · rename_i id gen e
    rw [e] at hx
    obtain ⟨d, h3, hm⟩ := mapOK_spec hm
    obtain ⟨es, clock, h4, h5, h6⟩ := hR.map_obj h3
    have hv := hx.mp_inv h3
    have fin : ∀ {r : Option Sc} {key : Value} {f : Option (Nat × Value)} {dd : TypeDesc}, P.underlying kt = some dd → IsKey dd key → a.eval ix = key → Instr.findNow dd key es.toList 0 = some f → (f.map (·.2) = r.map Sc.vl) → (gotK P nt o et ok r).mwp s K →
        ∃ p v, (setD nt o.dst p .done).mwp s K ∧ (execOp a.eval o).run P w = .ok (.value v) w ∧ RV G w s.O p v := by
      intro r key f dd hd hk hkey hf hfr hm
      have run : ∀ y z, (f = none → y = false ∧ ∀ w, (zeroValue et).run P w = .ok z w) → (∀ n q, f = some (n, q) → y = true ∧ q = z) → (execOp a.eval o).run P w = .ok (.value (if ok then .tuple #[z, .bool y] else z)) w := by
        intro y z q1 q2
        have c1 := run_checkKey (P := P) (w := w) hd hk es.isEmpty 9999
        have c2 := run_findKey (P := P) (w := w) hd hf
        simp only [execOp, ho, hv, hkey, Instr.lookup, Sem.run_bind, run_underlying h1, Result.andThen_ok, Go.MapKept.run_getObj_map h4, Sem.run_pure, c1, c2]
        cases f with
        | none => obtain ⟨rfl, q⟩ := q1 rfl; simp only [Sem.run_bind, q, Result.andThen_ok, Sem.run_pure]
        | some f =>
          obtain ⟨n, q⟩ := f
          obtain ⟨rfl, rfl⟩ := q2 n q rfl
          simp only [Sem.run_bind, Result.andThen_ok, Sem.run_pure]
      unfold gotK at hm
      cases r with
      | some c =>
        obtain ⟨p, hm, hp⟩ := scV_ok (G := G) (w := w) hm
        cases f with
        | none => simp at hfr
        | some f =>
          obtain ⟨n, q⟩ := f
          simp only [Option.map_some, Option.some.injEq] at hfr
          have hrun := run true c.vl (fun e => by cases e) (fun _ _ e => by cases e; exact ⟨rfl, hfr⟩)
          cases ok with
          | true => exact ⟨_, _, hm, hrun, .tup _ _ ⟨rfl, fun j p' hj => by
              match j, hj with
              | 0, hj => simp only [List.getElem?_cons_zero, Option.some.injEq] at hj; subst hj; exact ⟨_, rfl, .cell _ _ hp⟩
              | 1, hj => simp only [List.getElem?_cons_succ, List.getElem?_cons_zero, Option.some.injEq] at hj; subst hj; exact ⟨_, rfl, .cell _ _ (.sh _ _ (.bool _))⟩
              | j + 2, hj => simp at hj⟩⟩
          | false => exact ⟨_, _, hm, hrun, .any _ _ (.cell _ _ hp)⟩
      | none =>
        obtain ⟨z, p, hz, hp, hm⟩ := zeroV1_spec hm
        cases f with
        | some f => simp at hfr
        | none =>
          have hrun := run false z (fun _ => ⟨rfl, hz⟩) (fun _ _ e => by cases e)
          cases ok with
          | true => exact ⟨_, _, hm, hrun, .tup _ _ ⟨rfl, fun j p' hj => by
              match j, hj with
              | 0, hj => simp only [List.getElem?_cons_zero, Option.some.injEq] at hj; subst hj; exact ⟨_, rfl, .cell _ _ (hp _ _ _)⟩
              | 1, hj => simp only [List.getElem?_cons_succ, List.getElem?_cons_zero, Option.some.injEq] at hj; subst hj; exact ⟨_, rfl, .cell _ _ (.sh _ _ (.bool _))⟩
              | j + 2, hj => simp at hj⟩⟩
          | false => exact ⟨_, _, hm, hrun, .any _ _ (.cell _ _ (hp _ _ _))⟩
    split at hm
    · rename_i l k e2 _
      rw [e2] at hi
      rcases rel_find same_s k 0 (show RelL kS l es.toList from h6) with ⟨a1, a2, _⟩ | ⟨j, e', c, a1, a2, a3, a4, a5, _⟩
      · exact fin h2 (by simp [IsKey]) hi.str_inv a1 (by rw [a2]; rfl) hm
      · exact fin h2 (by simp [IsKey]) hi.str_inv a1 (by rw [a5, a4]; rfl) hm
    · rename_i l k e2 _
      rw [e2] at hi
      rcases rel_find same_i k 0 (show RelL kI l es.toList from h6) with ⟨a1, a2, _⟩ | ⟨j, e', c, a1, a2, a3, a4, a5, _⟩
      · exact fin h2 (by simp [IsKey]) hi.int_inv a1 (by rw [a2]; rfl) hm
      · exact fin h2 (by simp [IsKey]) hi.int_inv a1 (by rw [a5, a4]; rfl) hm
    · exact hm.elim
  · exact hm.elim
def putObj (κ v : Value) (es : Array MapEntry) (clock : Nat) (f : Option (Nat × Value)) : Obj := match f with
  | some (n, _) => .map (es.modify n fun e => { e with key := κ, val := v }) clock
  | none => .map (es.push { key := κ, val := v, born := clock }) (clock + 1)
def prMapPut (P : Program) (nt : Nat) (o : Oper) (t : TypeId) (m key x : Operand) : Pr := rdV m fun v => rdV key fun u => rdV x fun y => keyK P t fun b _ => match v with
  | .mp id gen => scK y fun c => mapOK id gen fun d => match b, d, u with
    | true, .s l, .str k => .putO id (.box gen [.md (.s (mset k c l))]) (setD nt o.dst (.tup []) .done)
    | false, .i l, .int .i64 k => .putO id (.box gen [.md (.i (mset k c l))]) (setD nt o.dst (.tup []) .done)
    | _, _, _ => .fail
  | _ => .fail
theorem sameBits_s (l : List UInt8) : Instr.sameBits 10000 (kS l) (kS l) = true := by
  show ((⟨l.toArray⟩ : ByteArray) == ⟨l.toArray⟩) = true
  rw [bytes_beq]
theorem sameBits_i (n : Int) : Instr.sameBits 10000 (kI n) (kI n) = true := by
  simp [Instr.sameBits]
theorem prMapPut_ok [Env P] {t : TypeId} {m key x : Operand} (ho : o.op = .mapUpdate t m key x ∨ o.op = .insert t m key x) : OpS P nt o (prMapPut P nt o t m key x) := by
  intro E G s a w K next Q hnt hR hm hn
  simp only [prMapPut, rdV_mwp] at hm
  have hx := ev_sound hR m
  have hi := ev_sound hR key
  have hy := ev_sound hR x
  obtain ⟨kt, et, b, h1, h2, hm⟩ := keyK_spec hm
  split at hm
  · rename_i id gen e
    rw [e] at hx
    obtain ⟨c, hc, hm⟩ := scK_ok hy hm
    obtain ⟨d, h3, hm⟩ := mapOK_spec hm
    obtain ⟨es, clock, h4, h5, h6⟩ := hR.map_obj h3
    have hv := hx.mp_inv h3
    have fin : ∀ {d' : MD} {es' : Array MapEntry} {clock' : Nat}, (execOp a.eval o).run P w = .ok .skip { w with heap := w.heap.setIfInBounds (G.blk id) (.map es' clock') } → MapR d' es' →
        (Pr.putO id (.box gen [.md d']) (setD nt o.dst (.tup []) .done)).mwp s K → o.wp P a w next Q := by
      intro d' es' clock' hrun hmr hm
      simp only [Pr.mwp] at hm
      obtain ⟨hh1, hh2⟩ := heap_set (o' := .map es' clock') h4
      have hst : ∀ off' c, stab G w (G.blk id) off' c → off' < 0 ∧ ({ w with heap := w.heap.setIfInBounds (G.blk id) (.map es' clock') } : World).cell? ⟨G.blk id, off', none⟩ = some c := fun off' c h => by
        have := h.1 0 (by rw [h5]); omega
      have hlim : limG G id 0 = G := by
        have : upd G.own (G.blk id) ⟨some id, some 0⟩ = G.own := by funext j; unfold upd; split <;> simp_all
        simp [limG, this]
      have hR' := limG_rg (w' := { w with heap := w.heap.setIfInBounds (G.blk id) (.map es' clock') }) (o' := .box gen [.md d']) hR h3 (.inr ⟨gen, _, rfl⟩) (.inr rfl) hh2 (by simp) rfl rfl rfl hst (.inr ⟨rfl, rfl⟩) (by
        rw [hlim]
        exact .mp _ _ es' clock' hh1 h5 hmr)
      obtain ⟨s', hk, hR2⟩ := setD_put hnt hR' .undef hm
      exact opwp_skip hrun (hn _ _ _ hk ⟨_, hR2⟩)
    have run : ∀ {κ : Value} {f : Option (Nat × Value)} {dd : TypeDesc}, P.underlying kt = some dd → IsKey dd κ → a.eval key = κ → Instr.sameBits 10000 κ κ = true → Instr.findNow dd κ es.toList 0 = some f →
        (∀ n q, f = some (n, q) → ∃ e, es.toList[n]? = some e ∧ e.key = κ) →
        (execOp a.eval o).run P w = .ok .skip { w with heap := w.heap.setIfInBounds (G.blk id) (putObj κ c.vl es clock f) } := by
      intro κ f dd hd hk hkey hsb hf hfe
      have c1 := run_checkKey (P := P) (w := w) hd hk false 9999
      have c2 := run_findKey (P := P) (w := w) hd hf
      have hop : (Instr.mapUpdate t (a.eval m) (a.eval key) (a.eval x)).run P w = .ok () { w with heap := w.heap.setIfInBounds (G.blk id) (putObj κ c.vl es clock f) } := by
        simp only [hv, hkey, hc, Instr.mapUpdate, Sem.run_bind, run_underlying h1, Result.andThen_ok, Go.MapKept.run_getObj_map h4, c1, c2]
        cases f with
        | none => simp only [Go.MapKept.run_setObj_map _ h4, putObj]
        | some f =>
          obtain ⟨n, q⟩ := f
          obtain ⟨e, e1, e2⟩ := hfe n q rfl
          have : ((es[n]?).map (·.key)).getD κ = κ := by
            rw [← Array.getElem?_toList, e1]; simp [e2]
          simp only [this, Instr.keyThatStays, hsb, if_true, Sem.run_bind, Sem.run_pure, Result.andThen_ok, Go.MapKept.run_setObj_map _ h4, putObj]
      rcases ho with ho | ho
      · simp only [execOp, ho, Sem.run_bind, hop, Result.andThen_ok, Sem.run_pure]
      · simp only [execOp, ho, Sem.run_bind, hop, Result.andThen_ok, Sem.run_pure]
    split at hm
    · rename_i l k e2 _ _
      rw [e2] at hi
      rcases rel_find same_s k 0 (show RelL kS l es.toList from h6) with ⟨a1, a2, a3⟩ | ⟨j, e', c', a1, a2, a3, a4, a5, a6⟩
      · refine fin (run h2 (by simp [IsKey]) hi.str_inv (sameBits_s k) a1 (fun _ _ q => by cases q)) ?_ hm
        show RelL kS _ _
        rw [a3 c, Array.toList_push]
        exact rel_app (κ := kS) rfl rfl h6
      · refine fin (run h2 (by simp [IsKey]) hi.str_inv (sameBits_s k) a1 (fun _ _ q => by cases q; exact ⟨e', by rw [Nat.zero_add]; exact a2, a3⟩)) ?_ hm
        show RelL kS _ _
        rw [a6 c, Array.toList_modify, Nat.zero_add]
        exact rel_set (κ := kS) (fun _ => rfl) (fun _ => rfl) j h6
    · rename_i l k e2 _ _
      rw [e2] at hi
      rcases rel_find same_i k 0 (show RelL kI l es.toList from h6) with ⟨a1, a2, a3⟩ | ⟨j, e', c', a1, a2, a3, a4, a5, a6⟩
      · refine fin (run h2 (by simp [IsKey]) hi.int_inv (sameBits_i k) a1 (fun _ _ q => by cases q)) ?_ hm
        show RelL kI _ _
        rw [a3 c, Array.toList_push]
        exact rel_app (κ := kI) rfl rfl h6
      · refine fin (run h2 (by simp [IsKey]) hi.int_inv (sameBits_i k) a1 (fun _ _ q => by cases q; exact ⟨e', by rw [Nat.zero_add]; exact a2, a3⟩)) ?_ hm
        show RelL kI _ _
        rw [a6 c, Array.toList_modify, Nat.zero_add]
        exact rel_set (κ := kI) (fun _ => rfl) (fun _ => rfl) j h6
    · exact hm.elim
  · exact hm.elim
end
end Go.PV
namespace Go.PV
open Go Go.RowKit
/-! slices made -/
section
variable {P : Program} {nt : Nat} {o : Oper}
def bytesK (P : Program) (t : TypeId) (k : Pr) : Pr := match P.toTables.info? t with
  | some i => match Nat.ble i.bytes 1000 with
    | true => k
    | false => .fail
  | none => .fail
def prMakeSlice (P : Program) (nt : Nat) (o : Oper) (t : TypeId) (x y : Operand) : Pr := match P.underlying t with
  | some (.slice e) => rdV x fun u => rdV y fun v => match u, v with
    | .int _ l, .int _ c => zeroK P e fun z => szK P e fun n => match Nat.beq z.length n, n with
      | true, n + 1 => bytesK P e (shLK z fun z' => .ex Nat (fun m => l = m ∧ c = m ∧ m * (n + 1) ≤ 10000000) fun m => newK nt o (fun g => .arr g false (n + 1) (List.replicate m z')) fun id g => .own id g)
      | _, _ => .fail
    | _, _ => .fail
  | _ => .fail
theorem prMakeSlice_ok [Env P] {t : TypeId} {x y : Operand} (ho : o.op = .makeSlice t x y) : OpS P nt o (prMakeSlice P nt o t x y) := by
  intro E G s a w K next Q hnt hR hm hn
  unfold prMakeSlice at hm
  split at hm
  · rename_i e hu
    simp only [rdV_mwp] at hm
    have hx := ev_sound hR x
    have hy := ev_sound hR y
    split at hm
    · rename_i i l j c e1 e2
      rw [e1] at hx; rw [e2] at hy
      obtain ⟨ie, z, lz, hie, hz, hzc, hm⟩ := zeroK_spec hm
      obtain ⟨ie', hie', hm⟩ := szK_spec hm
      rw [hie] at hie'; cases hie'
      split at hm
      · rename_i n hl hsz
        have hl := Nat.eq_of_beq_eq_true hl
        have hsz : ie.size = n + 1 := hsz
        unfold bytesK at hm
        rw [hie] at hm
        simp only at hm
        split at hm
        · rename_i hby
          have hby := Nat.le_of_ble_eq_true hby
          have hzs : z.cells.size = n + 1 := by rw [(hzc G w s.O).1, hl, ← hsz]
          obtain ⟨G1, s1, z', hR1, hle1, hV1, hm, hlen, hcells⟩ := shLK_ok (xs := z.cells.toList) hR (by simpa using (hzc G w s.O).1.symm) (fun j p hj => by simpa using (hzc G w s.O).2 j p hj) hm
          obtain ⟨m, ⟨h1, h2, h3⟩, hm5⟩ := hm
          clear hm
          subst h1
          have hc : c = ((m : Nat) : Int) := h2
          subst hc
          have hf := flat_rep (len := m) (by rw [hlen]; simpa using hzs) hzs hcells
          have h4 : m ≤ 10000000 := Nat.le_trans (Nat.le_mul_of_pos_right m (Nat.succ_pos n)) h3
          have hbb : ie.bytes * m ≤ 1000 * 10000000 := Nat.mul_le_mul hby h4
          have hrun := run_makeSlice (P := P) w t e ie z hu hie hz i j (m : Int) (m : Int) (by omega) (by omega) (by rw [hsz, Int.toNat_natCast]; exact Nat.le_trans h3 (by decide)) (by
            have : ((ie.bytes * m : Nat) : Int) ≤ 281474976710656 := by omega
            simpa using this) (by omega)
          rw [hsz] at hrun
          simp only [Int.toNat_natCast] at hrun
          refine newK_ok (w' := w.alloc (.cells (madeCells z.cells (m * (n + 1))) e)) (b := .cells (madeCells z.cells (m * (n + 1))) e) (v := .slice (some ⟨w.heap.size, 0, none⟩) m m) (cap := m) hnt hR1 hn hm5
              (by simp only [execOp, ho, hx.int_inv, hy.int_inv, Sem.run_bind, hrun, Result.andThen_ok]; rfl) (fun _ => rfl) rfl rfl rfl rfl
              (fun id s' _ hle g _ => newG_arr rfl hle hf (Nat.succ_pos _) (by simp) (by simp [madeCells]) (fun j c h => by rw [Array.getElem?_toList] at h; exact h) false) (fun id g s' h => by
                have := newG_own (G := G1) (w := w) (w' := w.alloc (.cells (madeCells z.cells (m * (n + 1))) e)) (cap := m) h
                rwa [List.length_replicate] at this)
        · exact hm.elim
      · exact hm.elim
    · exact hm.elim
  · exact hm.elim
end
end Go.PV
namespace Go.PV
open Go Go.RowKit
section
variable {P : Program} {nt : Nat} {o : Oper}
def isBase (ops : List Oper) (d : Option Nat) : Bool := match d with
  | none => false
  | some d => ops.any fun o => match o.op with
    | .call c => match c.callee, c.args.toList with
      | .builtin .append, .tmp t :: _ => Nat.beq t d
      | _, _ => false
    | _ => false
def prTrunc (P : Program) (nt : Nat) (o : Oper) (t : TypeId) (id gen : Nat) (m : Int) : Pr := match P.underlying t with
  | some (.slice e) => szK P e fun _ => arrK id gen fun sh n xs => match sh with
    | true => .fail
    | false => .ex PUnit (fun _ => 0 ≤ m ∧ m ≤ xs.length) fun _ => .putO id (.arr (gen + 1) false n (xs.take m.toNat)) (setD nt o.dst (.own id (gen + 1)) .done)
  | _ => .fail
def prSlice (P : Program) (nt : Nat) (ops : List Oper) (o : Oper) (t : TypeId) (x : Operand) (lo hi mx : Option Operand) : Pr := match mx with
  | some _ => .fail
  | none => rdV x fun v => optV lo fun a => optV hi fun b => match v with
    | .str l => prCutStr P nt o t l a b
    | .sl n xs => prCutSl P nt o t n xs a b
    | .own id gen => match a, b, isBase ops o.dst with
      | none, some m, true => prTrunc P nt o t id gen m
      | none, some m, false => .ex Bool (fun _ => True) fun c => match c with
        | true => prTrunc P nt o t id gen m
        | false => shK (.own id gen) fun p => match p with
          | .sl n xs => prCutSl P nt o t n xs a b
          | _ => .fail
      | _, _, _ => shK (.own id gen) fun p => match p with
        | .sl n xs => prCutSl P nt o t n xs a b
        | _ => .fail
    | _ => .fail
theorem prSlice_ok [Env P] {ops : List Oper} {t : TypeId} {x : Operand} {lo hi mx : Option Operand} (ho : o.op = .slice t x lo hi mx) : OpS P nt o (prSlice P nt ops o t x lo hi mx) := by
  intro E G s a w K next Q hnt hR hm hn
  unfold prSlice at hm
  split at hm
  · exact hm.elim
  simp only [rdV_mwp] at hm
  have hx := ev_sound hR x
  obtain ⟨m, hbm, hm⟩ := optV_bnd hR hm
  obtain ⟨n, hbn, hm⟩ := optV_bnd hR hm
  have fin : ∀ {G : Gh} {s : St}, RG E G s a w → (∃ p v, (setD nt o.dst p .done).mwp s K ∧ (execOp a.eval o).run P w = .ok (.value v) w ∧ RV G w s.O p v) → o.wp P a w next Q := by
    rintro G s hR ⟨p, v, h1, h2, h3⟩
    obtain ⟨s', hk, hR'⟩ := setD_put hnt hR h3 h1
    exact opwp_value h2 (hn _ _ _ hk ⟨G, hR'⟩)
  have shared : ∀ {id gen : Nat}, RV G w s.O (.own id gen) (a.eval x) → (shK (.own id gen) fun p => match p with
        | .sl c xs => prCutSl P nt o t c xs m n
        | _ => .fail).mwp s K → o.wp P a w next Q := by
    intro id gen hx h
    obtain ⟨G', s', p, hR', hle, hV, h, hp⟩ := shK_ok hR (by cases hx with | any _ _ hx => exact hx.not_agg (by simp)) h
    split at h
    · exact fin hR' (cut_sl ho (.of_sh hp) hbm hbn h)
    · exact h.elim
  have trunc : ∀ {id gen : Nat} {k : Int}, n = some k → m = none → RV G w s.O (.own id gen) (a.eval x) → (prTrunc P nt o t id gen k).mwp s K → o.wp P a w next Q := by
    intro id gen k en em hx h
    subst en; subst em
    unfold prTrunc at h
    split at h
    · rename_i e ht
      obtain ⟨ie, hie, h⟩ := szK_spec h
      obtain ⟨sh, c, xs, hO, h⟩ := arrK_spec h
      split at h
      · exact h.elim
      obtain ⟨_, ⟨h0, h1⟩, h⟩ := h
      simp only [Pr.mwp] at h
      have hlen : (xs.take k.toNat).length = k.toNat := by simp; omega
      have hv := hx.own_inv hO
      have run : ∀ {ad : Option Addr} {len cap : Nat}, a.eval x = .slice ad len cap → (ad = none ∨ ∃ b, ad = some ⟨b, 0, none⟩) → len = xs.length → len ≤ cap → (execOp a.eval o).run P w = .ok (.value (.slice ad k.toNat cap)) w := by
        intro ad len cap e1 e2 e3 e4
        subst e3
        have hb := run_sliceBounds (P := P) (sl := true) w hbm hbn (show cutOk xs.length none (some k) from ⟨h0, h1⟩) e4
        have e5 : (if cap = 0 then ad else ad.map (·.add (0 * ie.size))) = ad := by
          split
          · rfl
          · rcases e2 with rfl | ⟨b, rfl⟩
            · rfl
            · simp [Addr.add]
        simp only [execOp, ho, e1, Instr.sliceAt, Instr.slice, Sem.run_bind, run_underlying ht, Result.andThen_ok, hb, Option.map_none, run_sizeOf hie, Sem.run_pure, loOf, hiOf, Nat.sub_zero, e5]
      have hO' : (s.putO id (.arr (gen + 1) false c (xs.take k.toNat))).O id = some (.arr (gen + 1) false c (xs.take k.toNat)) := by rw [St.O_putO, if_pos rfl]
      cases hR.ob id _ hO with
      | nil _ _ _ hnl =>
        rw [hdr, hnl] at hv
        have hk0 : k.toNat = 0 := by simp at h1; omega
        rw [List.take_nil] at h hO'
        have hR' : RG E G (s.putO id (.arr (gen + 1) false c [])) a w := sam_rg hR hO (.inl (hR.arr_bx hO)) (.inl (Nat.lt_succ_self _)) (.nil _ _ _ hnl)
        obtain ⟨s', hk, hR2⟩ := setD_put hnt hR' (nilOwn hnl hO') h
        exact opwp_value (by have := run hv (.inl rfl) rfl (Nat.le_refl _); rw [hk0] at this; exact this) (hn _ _ _ hk ⟨_, hR2⟩)
      | arr _ _ _ _ cs T lim hnl hb hw hpos hl hc hz hs ht' hh =>
        rw [hdr, hnl] at hv
        have hlim := hs rfl
        subst hlim
        have hst : ∀ off c', stab G w (G.blk id) off c' → off < 0 ∧ w.cell? ⟨G.blk id, off, none⟩ = some c' := fun off c' hoc => by
          have := hoc.1 0 (by rw [hw]); omega
        have hlimG : limG G id 0 = G := by
          have : upd G.own (G.blk id) ⟨some id, some 0⟩ = G.own := by funext j; unfold upd; split <;> simp_all
          simp [limG, this]
        have hle := limG_le (G := G) (s := s) (o' := .arr (gen + 1) false c (xs.take k.toNat)) hO (fun _ _ => rfl) hst (.inl (Nat.lt_succ_self _))
        rw [hlimG] at hle
        have hget : ∀ (i : Nat) (y : List V), (xs.take k.toNat)[i]? = some y → xs[i]? = some y := fun i y hi => by
          rw [List.getElem?_take] at hi; split at hi
          · exact hi
          · cases hi
        have hR' := limG_rg (o' := .arr (gen + 1) false c (xs.take k.toNat)) hR hO (.inl (hR.arr_bx hO)) (.inl hnl) (fun _ _ => rfl) rfl rfl rfl rfl hst (.inl (Nat.lt_succ_self _)) (by
          rw [hlimG]
          exact .arr _ _ _ _ cs T 0 hnl hb hw hpos (fun i y hi => hl i y (hget i y hi)) (by rw [hlen]; omega) hz (fun _ => rfl) (Nat.zero_le _) (fun i y j p hi hj => let ⟨q, q1, q2⟩ := hh i y j p (hget i y hi) hj; ⟨q, q1, q2.mono hle.hs⟩))
        have hv2 : RV (limG G id 0) w (s.putO id (.arr (gen + 1) false c (xs.take k.toNat))).O (.own id (gen + 1)) (.slice (some ⟨G.blk id, 0, none⟩) k.toNat (G.cap id)) := by
          refine .any _ _ (.cell _ _ (.own _ _ _ _ rfl hO' (Nat.le_refl _) fun c' len _ e => ?_))
          simp only [Ob.sig, Option.some.injEq, Prod.mk.injEq, hlen] at e
          simp [hdr, limG, hnl, e.2]
        obtain ⟨s', hk, hR2⟩ := setD_put hnt hR' hv2 h
        exact opwp_value (run hv (.inr ⟨_, rfl⟩) rfl hc) (hn _ _ _ hk ⟨_, hR2⟩)
    · exact h.elim
  split at hm
  · rename_i l e1
    rw [e1] at hx
    exact fin hR (cut_str ho hx hbm hbn hm)
  · rename_i c xs e1
    rw [e1] at hx
    exact fin hR (cut_sl ho hx hbm hbn hm)
  · rename_i id gen e1
    rw [e1] at hx
    split at hm
    · exact trunc rfl rfl hx hm
    · obtain ⟨c, _, hm⟩ := hm
      dsimp only at hm
      split at hm
      · exact trunc rfl rfl hx hm
      · exact shared hx hm
    · exact shared hx hm
  · exact hm.elim
/-- a function value -/
def prFn (nt : Nat) (o : Oper) (f : FuncId) (caps : List Operand) : Pr := rdVs caps fun vs => match vs.all (fun v => match v with | .dead => false | .agg _ => false | .tup _ => false | .elp _ _ _ _ => false | .rp _ => false | _ => true) with
  | true => setD nt o.dst (.fn f vs) .done
  | false => .fail
theorem prFn_ok [Env P] {f : FuncId} {caps : Array Operand} (ho : o.op = .makeFunc (.func f) #[] caps) : OpS P nt o (prFn nt o f caps.toList) := by
  refine .pure fun E G s a w K hR hm => ?_
  simp only [prFn, rdVs_mwp] at hm
  split at hm
  · rename_i hall
    refine ⟨_, .func (.func f) #[] (caps.map a.eval), hm, by simp [execOp, ho, Instr.makeFunc], .any _ _ (.cell _ _ (.fn _ _ _ (fun i => (caps.map a.eval).getD i undef) (by simp) (fun i hi => ?_) (fun i p hi => ?_)))⟩
    · have : i < (caps.map a.eval).size := by simpa using hi
      rw [Array.getElem?_eq_getElem this, Array.getD_eq_getD_getElem?, Array.getElem?_eq_getElem this]; rfl
    · have hp := List.all_eq_true.1 hall p (List.mem_of_getElem? hi)
      rw [List.getElem?_map] at hi
      cases hc : caps.toList[i]? with
      | none => rw [hc] at hi; cases hi
      | some x =>
        rw [hc] at hi; simp only [Option.map_some, Option.some.injEq] at hi; subst hi
        have hx := ev_sound hR x
        have e : (caps.map a.eval).getD i undef = a.eval x := by
          rw [Array.getD_eq_getD_getElem?, Array.getElem?_map, ← Array.getElem?_toList, hc]; rfl
        rw [e]
        revert hp hx
        generalize s.ev x = q
        generalize a.eval x = u
        intro hp hx
        cases hx with
        | dead => simp at hp
        | any _ _ h => cases h with
          | cell _ _ h => exact h
          | agg => simp at hp
        | tup => simp at hp
        | elp => simp at hp
        | rp => simp at hp
  · exact hm.elim
/-- calls -/
def prCall (P : Program) [Env P] (nt : Nat) (o : Oper) (c : Call) : Pr := match c.callee with
  | .value f => rdV f fun v => match v with
    | .fn f caps => rdVs c.args.toList fun vs => callK P nt o f (vs ++ caps)
    | _ => .fail
  | .builtin .append => match c.args.toList, c.argTypes.toList with
    | [x, y], [t, u] => prAppend P nt o t u x y
    | _, _ => .fail
  | .builtin .len => match c.args.toList, c.argTypes.toList with
    | [x], [t] => prLen P nt o t x
    | _, _ => .fail
  | .builtin .min => match c.args.toList with
    | [x, y] => prMin nt o false x y
    | _ => .fail
  | .builtin .max => match c.args.toList with
    | [x, y] => prMin nt o true x y
    | _ => .fail
  | _ => .fail
/-- an operation, told -/
def opPr (P : Program) [Env P] (nt : Nat) (ops : List Oper) (o : Oper) : Pr := match o.op with
  | .move x => prMove nt o x
  | .assign x => prMove nt o x
  | .pick c x y => prPick nt o c x y
  | .alloc t => prAlloc P nt o t
  | .box _ x => prBox nt o x
  | .build t ps => prBuild P nt o t ps
  | .buildSlice t n ps => prBuildSlice P nt o t n ps
  | .load t x => prLoad P nt o t x
  | .store t x y => prStore P nt o t x y
  | .nilCheck x => prNil nt o x
  | .binOp op t x y _ => prBin P nt o op t x y
  | .unOp op _ x => prNot nt o op x
  | .convert t u x => prConv P nt o t u x
  | .makeFunc f fs cs => match f, fs.toList with
    | .func f, [] => prFn nt o f cs.toList
    | _, _ => .fail
  | .slice t x lo hi mx => prSlice P nt ops o t x lo hi mx
  | .fieldAddr t x f => prFieldAddr P nt o t x f
  | .field t x f => prField P nt o t x f
  | .indexAddr t x i => prIndexAddr P nt o t x i
  | .index t x i => prIndex P nt o t x i
  | .extract x i => prExtract nt o x i
  | .call c => prCall P nt o c
  | .makeMap t r => prMake P nt o t r
  | .makeSlice t x y => prMakeSlice P nt o t x y
  | .lookup t x i ok => prLook P nt o t x i ok
  | .mapUpdate t m k x => prMapPut P nt o t m k x
  | .insert t m k x => prMapPut P nt o t m k x
  | _ => .fail
theorem run_callFunc {f : FuncId} (h : CallOk P f) (args : Array Value) (w : World) : (callFunc f args).run P w = .ok (.enter f args) w := by
  obtain ⟨fn, h1, h2, h3⟩ := h
  have h4 : fn.body.isNone = false := by cases hb : fn.body <;> simp_all
  simp only [callFunc, Sem.run_bind, run_program, Result.andThen_ok, h1, h3, h4, Bool.false_eq_true, if_false]; rfl
theorem prCall_ok [Env P] {c : Call} (ho : o.op = .call c) : OpS P nt o (prCall P nt o c) := by
  obtain ⟨callee, args, ts⟩ := c
  have arr : ∀ {α : Type} {l : List α} {a : Array α}, a.toList = l → a = l.toArray := fun h => by rw [← h]
  unfold prCall
  dsimp only
  split
  · rename_i fx
    intro E G s a w K next Q hnt hR hm hn
    rw [rdV_mwp] at hm
    have hx := ev_sound hR fx
    split at hm
    · rename_i f caps e
      rw [e] at hx
      obtain ⟨cs, h1, h2⟩ := hx.fn_inv
      rw [rdVs_mwp] at hm
      refine callK_ok (vs := args.map a.eval ++ cs) hnt hR hn hm ⟨by simp [h2.1], fun j p hj => ?_⟩ fun hc => ?_
      · rw [List.getElem?_append] at hj
        split at hj
        · rename_i hlt
          rw [List.getElem?_map] at hj
          cases hq : args.toList[j]? with
          | none => rw [hq] at hj; cases hj
          | some x =>
            rw [hq] at hj; simp only [Option.map_some, Option.some.injEq] at hj; subst hj
            refine ⟨a.eval x, ?_, ev_sound hR x⟩
            have hlt' : j < (args.map a.eval).size := by simpa using hlt
            rw [Array.getElem?_append_left hlt', Array.getElem?_map, ← Array.getElem?_toList, hq]; rfl
        · rename_i hge
          obtain ⟨c, h3, h4⟩ := h2.2 _ p hj
          refine ⟨c, ?_, .any _ _ (.cell _ _ h4)⟩
          have hge' : (args.map a.eval).size ≤ j := by simpa using hge
          rw [Array.getElem?_append_right hge']; simpa using h3
      · simp [execOp, ho, resolve, Deferred.ofValue, h1, invoke, run_callFunc hc]
    · exact hm.elim
  · split
    · rename_i e1 e2
      rw [arr e1, arr e2] at ho; exact prAppend_ok ho
    · intro E G s a w K next Q hnt hR hm hn; exact hm.elim
  · split
    · rename_i e1 e2
      rw [arr e1, arr e2] at ho; exact prLen_ok ho
    · intro E G s a w K next Q hnt hR hm hn; exact hm.elim
  · split
    · rename_i e1
      rw [arr e1] at ho; exact prMin_ok (mx := false) ho
    · intro E G s a w K next Q hnt hR hm hn; exact hm.elim
  · split
    · rename_i e1
      rw [arr e1] at ho; exact prMin_ok (mx := true) ho
    · intro E G s a w K next Q hnt hR hm hn; exact hm.elim
  · intro E G s a w K next Q hnt hR hm hn; exact hm.elim
theorem opPr_ok [Env P] {ops : List Oper} : OpS P nt o (opPr P nt ops o) := by
  unfold opPr
  split
  · rename_i h; exact prMove_ok (.inl h)
  · rename_i h; exact prMove_ok (.inr h)
  · rename_i h; exact prPick_ok h
  · rename_i h; exact prAlloc_ok h
  · rename_i h; exact prBox_ok h
  · rename_i h; exact prBuild_ok h
  · rename_i h; exact prBuildSlice_ok h
  · rename_i h; exact prLoad_ok h
  · rename_i h; exact prStore_ok h
  · rename_i h; exact prNil_ok h
  · rename_i h; exact prBin_ok h
  · rename_i h; exact prNot_ok h
  · rename_i h; exact prConv_ok h
  · rename_i f fs cs h
    split
    · rename_i e
      have : fs = #[] := by simpa using e
      subst this; exact prFn_ok h
    · intro E G s a w K next Q hnt hR hm hn; exact hm.elim
  · rename_i h; exact prSlice_ok h
  · rename_i h; exact prFieldAddr_ok h
  · rename_i h; exact prField_ok h
  · rename_i h; exact prIndexAddr_ok h
  · rename_i h; exact prIndex_ok h
  · rename_i h; exact prExtract_ok h
  · rename_i h; exact prCall_ok h
  · rename_i h; exact prMake_ok h
  · rename_i h; exact prMakeSlice_ok h
  · rename_i h; exact prLook_ok h
  · rename_i h; exact prMapPut_ok (.inl h)
  · rename_i h; exact prMapPut_ok (.inr h)
  · intro E G s a w K next Q hnt hR hm hn; exact hm.elim
end
end Go.PV
namespace Go.PV
open Go Go.RowKit
def skipPr (nt : Nat) (o : Oper) : Pr := setD nt o.dst (.tup []) .done
def guardPr (P : Program) [Env P] (nt : Nat) (ops : List Oper) (o : Oper) : Pr := match o.guard with
  | none => opPr P nt ops o
  | some (j, want) => match ops[j]? with
    | none => .fail
    | some oj => match oj.dst with
      | none => .fail
      | some d => .get d fun v => match v with
        | .tup [] => skipPr nt o
        | .bool _ => match want with
          | true => .brs d (opPr P nt ops o) (skipPr nt o)
          | false => .brs d (skipPr nt o) (opPr P nt ops o)
        | _ => .fail
section
variable {P : Program} {nt : Nat} {opsA : Array Oper}
theorem guard_ok [Env P] {E : Ent} {G : Gh} {s : St} {a : Act} {w : World} {K : St → Prop} {next : Act → World → Prop} {Q : Exit → Act → World → Prop} {i : Nat} {o : Oper} (hnt : E.ok P nt) (hR : RG E G s a w) (ho : opsA[i]? = some o)
    (hm : (guardPr P nt opsA.toList o).mwp s K) (hn : ∀ s' a' w', K s' → R E s' a' w' → next a' w') : wpOp P opsA Q i next a w := by
  unfold wpOp
  simp only [ho]
  have skip : (skipPr nt o).mwp s K → next (a.put o.dst undef) w := fun h => by
    obtain ⟨s', hk, hR'⟩ := setD_put hnt hR .undef h
    exact hn _ _ _ hk ⟨_, hR'⟩
  have run : (opPr P nt opsA.toList o).mwp s K → o.wp P a w next Q := fun h => opPr_ok E G s a w K next Q hnt hR h hn
  unfold guardPr at hm
  split at hm
  · rename_i hg
    rw [if_pos (by simp [Region.wanted, hg])]
    exact .inl (run hm)
  · rename_i j want hg
    split at hm
    · exact hm.elim
    rename_i oj hj
    rw [Array.getElem?_toList] at hj
    split at hm
    · exact hm.elim
    rename_i d hd
    simp only [Pr.mwp] at hm
    have hy : yielded opsA a.tmps j = match a.tmps[d]? with | some (.bool b) => some b | _ => none := by
      unfold yielded; simp only [hj, hd, Option.bind_some]; rfl
    have hv := hR.tm d
    have hw : Region.wanted o (yielded opsA a.tmps) = (yielded opsA a.tmps j == some want) := by simp [Region.wanted, hg]
    split at hm
    · rename_i e
      rw [e] at hv
      obtain ⟨cs, h1, h2⟩ := hv.tup_inv
      have : yielded opsA a.tmps j = none := by
        rw [hy]
        cases ht : a.tmps[d]? with
        | none => rfl
        | some v => rw [Array.getD_eq_getD_getElem?, ht] at h1; simp only [Option.getD_some] at h1; rw [h1]
      rw [if_neg (by rw [hw, this]; simp)]
      exact skip hm
    · rename_i b e
      have hb : ∀ c, s.V d = .bool c → yielded opsA a.tmps j = some c := by
        intro c e
        rw [e] at hv
        have h1 := hv.bool_inv
        rw [hy]
        cases ht : a.tmps[d]? with
        | none => rw [Array.getD_eq_getD_getElem?, ht] at h1; cases h1
        | some v => rw [Array.getD_eq_getD_getElem?, ht] at h1; simp only [Option.getD_some] at h1; rw [h1]
      split at hm
      · simp only [Pr.mwp] at hm
        rcases hm with ⟨e1, hm⟩ | ⟨e1, hm⟩
        · rw [if_pos (by rw [hw, hb _ e1]; rfl)]; exact .inl (run hm)
        · rw [if_neg (by rw [hw, hb _ e1]; decide)]; exact skip hm
      · simp only [Pr.mwp] at hm
        rcases hm with ⟨e1, hm⟩ | ⟨e1, hm⟩
        · rw [if_neg (by rw [hw, hb _ e1]; decide)]; exact skip hm
        · rw [if_pos (by rw [hw, hb _ e1]; rfl)]; exact .inl (run hm)
    · exact hm.elim
end
/-- a region in its order -/
def regSeq (P : Program) [Env P] (nt : Nat) (ops : List Oper) : List Oper → St → (St → Prop) → Prop
  | [], s, K => K s
  | o :: r, s, K => (guardPr P nt ops o).wp s [] [] fun s' _ _ => regSeq P nt ops r s' K
theorem regSeq_ok {P : Program} [Env P] {nt : Nat} {opsA : Array Oper} {E : Ent} {Q : Exit → Act → World → Prop} {K : St → Prop} (hnt : E.ok P nt) (hQ : ∀ s' a' w', K s' → R E s' a' w' → Q .normal a' w') : ∀ (r : List Oper) (i : Nat) (s : St) (a : Act) (w : World),
    (∀ j, r[j]? = opsA[i + j]?) → R E s a w → regSeq P nt opsA.toList r s K → wpOps P opsA Q (List.range' i r.length) a w
  | [], i, s, a, w, _, hR, h => hQ s a w h hR
  | o :: r, i, s, a, w, hr, ⟨G, hR⟩, h => by
    rw [List.length_cons, List.range'_succ, wpOps_cons]
    simp only [regSeq] at h
    obtain ⟨s', s'', A, B, h1, h2, h3⟩ := Pr.wp_runs h
    refine guard_ok hnt hR (by have := hr 0; simpa using this.symm) h1.mwp fun s1 a' w' e hR' => ?_
    subst e
    obtain ⟨G', hR'⟩ := hR'
    exact regSeq_ok hnt hQ r (i + 1) s'' a' w' (fun j => by have := hr (j + 1); rw [List.getElem?_cons_succ] at this; rw [this]; congr 1; omega) ⟨G', hR'.eqv h2⟩ h3
/-! any order -/
def locB : Loc → Loc → Bool
  | .slot a, .slot b => Nat.beq a b
  | .ob a, .ob b => Nat.beq a b
  | _, _ => false
theorem locB_iff {a b : Loc} : locB a b = true ↔ a = b := by
  cases a <;> cases b <;> simp only [locB] <;> constructor <;> intro h
  · rw [Nat.eq_of_beq_eq_true h]
  · cases h; simp
  · cases h
  · cases h
  · cases h
  · cases h
  · rw [Nat.eq_of_beq_eq_true h]
  · cases h; simp
def noneIn (l m : List Loc) : Bool := l.all fun x => m.all fun y => !locB x y
theorem noneIn_spec {l m : List Loc} (h : noneIn l m = true) : ∀ x ∈ l, x ∉ m := by
  intro x hx hm
  have := List.all_eq_true.1 (List.all_eq_true.1 h x hx) x hm
  simp only [Bool.not_eq_true'] at this
  rw [locB_iff.2 rfl] at this; cases this
/-- reads and writes of two operations that may change places -/
def noconf (x y : List Loc × List Loc) : Bool := noneIn x.2 y.1 && noneIn x.2 y.2 && noneIn y.2 x.1
def bindsB (e : Edge) : Bool := Region.binds .any e
def maskOf (ms : List Nat) : List Edge → Nat
  | [] => 0
  | e :: r => match bindsB e with
    | true => ((1 <<< e.on) ||| ms.getD e.on 0) ||| maskOf ms r
    | false => maskOf ms r
def masksGo : List Oper → List Nat → List Nat
  | [], ms => ms
  | o :: r, ms => masksGo r (ms ++ [maskOf ms o.after.toList])
def edgesGo : List Oper → Nat → Bool
  | [], _ => true
  | o :: r, i => o.after.toList.all (fun e => !bindsB e || Nat.blt e.on i) && edgesGo r (i + 1)
def chk (ops : List Oper) (logs : List (List Loc × List Loc)) : Bool :=
  edgesGo ops 0 && (List.range ops.length).all fun i => (List.range i).all fun j => ((masksGo ops []).getD i 0).testBit j || noconf (logs.getD j ([], [])) (logs.getD i ([], []))
theorem edgesGo_spec : ∀ {ops : List Oper} {i : Nat}, edgesGo ops i = true → ∀ (j : Nat) (o : Oper), ops[j]? = some o → ∀ e ∈ o.after, bindsB e = true → e.on < i + j
  | [], i, _, j, o, hj, _, _, _ => by simp at hj
  | o :: r, i, h, j, o', hj, e, he, hb => by
    simp only [edgesGo, Bool.and_eq_true] at h
    cases j with
    | zero =>
      simp only [List.getElem?_cons_zero, Option.some.injEq] at hj; subst hj
      have := List.all_eq_true.1 h.1 e (Array.mem_toList_iff.2 he)
      rw [hb] at this; simpa using this
    | succ j => have := edgesGo_spec h.2 j o' (by simpa using hj) e he hb; omega
theorem maskOf_spec {ms : List Nat} {j : Nat} : ∀ {es : List Edge}, (maskOf ms es).testBit j = true → ∃ e ∈ es, bindsB e = true ∧ (e.on = j ∨ (ms.getD e.on 0).testBit j = true)
  | [], h => by simp [maskOf] at h
  | e :: es, h => by
    simp only [maskOf] at h
    split at h
    · rename_i hb
      rw [Nat.testBit_or, Nat.testBit_or, Bool.or_eq_true, Bool.or_eq_true] at h
      rcases h with (h | h) | h
      · refine ⟨e, by simp, hb, .inl ?_⟩
        rw [Nat.shiftLeft_eq, Nat.one_mul, Nat.testBit_two_pow] at h
        simpa using h
      · exact ⟨e, by simp, hb, .inr h⟩
      · obtain ⟨e', h1, h2⟩ := maskOf_spec h; exact ⟨e', by simp [h1], h2⟩
    · obtain ⟨e', h1, h2⟩ := maskOf_spec h; exact ⟨e', by simp [h1], h2⟩
theorem masksGo_spec : ∀ {ops : List Oper} {ms : List Nat}, ∃ ns, masksGo ops ms = ms ++ ns ∧ ns.length = ops.length ∧ ∀ (j : Nat) (o : Oper), ops[j]? = some o → (masksGo ops ms)[ms.length + j]? = some (maskOf ((masksGo ops ms).take (ms.length + j)) o.after.toList)
  | [], ms => ⟨[], by simp [masksGo], rfl, fun j o hj => by simp at hj⟩
  | o :: r, ms => by
    obtain ⟨ns, h1, h2, h3⟩ := masksGo_spec (ops := r) (ms := ms ++ [maskOf ms o.after.toList])
    refine ⟨maskOf ms o.after.toList :: ns, by simp [masksGo, h1], by simp [h2], fun j o' hj => ?_⟩
    cases j with
    | zero =>
      simp only [List.getElem?_cons_zero, Option.some.injEq] at hj; subst hj
      simp only [masksGo]; rw [h1]; simp
    | succ j =>
      have := h3 j o' (by simpa using hj)
      simp only [masksGo]
      rw [List.length_append, List.length_cons, List.length_nil] at this
      rw [show ms.length + (j + 1) = ms.length + (0 + 1) + j by omega]; exact this
/-- the bit says: it waits for it -/
theorem mask_closed {ops : List Oper} (he : edgesGo ops 0 = true) {A : Nat → Prop} (hA : ∀ (i : Nat) (o : Oper), ops[i]? = some o → A i → ∀ e ∈ o.after, bindsB e = true → A e.on) :
    ∀ (i : Nat) (o : Oper), ops[i]? = some o → (∀ e ∈ o.after, bindsB e = true → A e.on) → ∀ j, ((masksGo ops []).getD i 0).testBit j = true → A j := by
  intro i
  induction i using Nat.strongRecOn with
  | _ i ih =>
    intro o ho hdep j hj
    obtain ⟨ns, h1, h2, h3⟩ := masksGo_spec (ops := ops) (ms := [])
    have h4 := h3 i o ho
    simp only [List.length_nil, Nat.zero_add] at h4
    rw [List.getD_eq_getElem?_getD, h4, Option.getD_some] at hj
    obtain ⟨e, he1, he2, he3⟩ := maskOf_spec hj
    have he1 : e ∈ o.after := Array.mem_toList_iff.1 he1
    have hlt := edgesGo_spec he i o ho e he1 he2
    rcases he3 with rfl | he3
    · exact hdep e he1 he2
    · have hlt : e.on < i := by omega
      have hoi : e.on < ops.length := by have := (List.getElem?_eq_some_iff.1 ho).1; omega
      have hoe := List.getElem?_eq_getElem hoi
      refine ih e.on hlt _ hoe (hA _ _ hoe (hdep e he1 he2)) j ?_
      rw [List.getD_eq_getElem?_getD, List.getElem?_take, if_pos hlt] at he3
      rw [List.getD_eq_getElem?_getD]; exact he3
def agree (s u : St) : Loc → Prop
  | .slot t => s.V t = u.V t
  | .ob id => s.O id = u.O id
theorem agree.put {s u : St} {l : Loc} (h : agree s u l) (t : Nat) (v : V) : agree (s.put t v) (u.put t v) l := by
  cases l with
  | slot x => simp only [agree, St.V_put] at h ⊢; rw [h]
  | ob x => exact h
theorem agree.putO {s u : St} {l : Loc} (h : agree s u l) (t : Nat) (o : Ob) : agree (s.putO t o) (u.putO t o) l := by
  cases l with
  | slot x => exact h
  | ob x => simp only [agree, St.O_putO] at h ⊢; rw [h]
theorem agree_put_ne {s : St} {l : Loc} {t : Nat} {v : V} (h : l ≠ .slot t) : agree s (s.put t v) l := by
  cases l with
  | slot x => simp only [agree, St.V_put]; rw [if_neg (fun e => h (by rw [e]))]
  | ob x => rfl
theorem agree_putO_ne {s : St} {l : Loc} {t : Nat} {o : Ob} (h : l ≠ .ob t) : agree s (s.putO t o) l := by
  cases l with
  | slot x => rfl
  | ob x => simp only [agree, St.O_putO]; rw [if_neg (fun e => h (by rw [e]))]
theorem agree.trans {s u v : St} {l : Loc} (h : agree s u l) (k : agree u v l) : agree s v l := by cases l <;> exact Eq.trans h k
theorem agree.symm {s u : St} {l : Loc} (h : agree s u l) : agree u s l := by cases l <;> exact Eq.symm h
theorem agree.refl (s : St) (l : Loc) : agree s s l := by cases l <;> rfl
theorem Eqv.agree {s u : St} (h : s.Eqv u) (l : Loc) : PV.agree s u l := by cases l; exact h.1 _; exact h.2 _
theorem eqv_of {s u : St} (h : ∀ l, agree s u l) : s.Eqv u := ⟨fun t => h (.slot t), fun t => h (.ob t)⟩
theorem Runs.frame {p : Pr} {s s' : St} {A B : List Loc} (h : Pr.Runs p s s' A B) : ∀ l, l ∉ B → agree s s' l := by
  induction h with
  | done s => exact fun l _ => .refl s l
  | get h ih => exact ih
  | put h ih => intro l hl; exact (agree_put_ne (fun e => hl (by simp [e]))).trans (ih l (fun e => hl (by simp [e])))
  | getO h ih => exact ih
  | putO h ih => intro l hl; exact (agree_putO_ne (fun e => hl (by simp [e]))).trans (ih l (fun e => hl (by simp [e])))
  | brT e h ih => exact ih
  | brF e h ih => exact ih
  | ex b hb h ih => exact ih
theorem Runs.local {p : Pr} {s s' : St} {A B : List Loc} (h : Pr.Runs p s s' A B) : ∀ {u : St}, (∀ l ∈ A, agree s u l) → ∃ u', Pr.Runs p u u' A B ∧ ∀ l ∈ B, agree s' u' l := by
  induction h with
  | done s => exact fun {u} _ => ⟨u, .done u, fun l hl => by simp at hl⟩
  | @get t k s s' A B h ih =>
    intro u hu
    obtain ⟨u', h1, h2⟩ := ih (u := u) (fun l hl => hu l (by simp [hl]))
    have e : s.V t = u.V t := hu (.slot t) (by simp)
    exact ⟨u', .get (by rw [← e]; exact h1), h2⟩
  | @getO id k s s' A B h ih =>
    intro u hu
    obtain ⟨u', h1, h2⟩ := ih (u := u) (fun l hl => hu l (by simp [hl]))
    have e : s.O id = u.O id := hu (.ob id) (by simp)
    exact ⟨u', .getO (by rw [← e]; exact h1), h2⟩
  | @put t v k s s' A B h ih =>
    intro u hu
    obtain ⟨u', h1, h2⟩ := ih (u := u.put t v) (fun l hl => (hu l hl).put t v)
    refine ⟨u', .put h1, fun l hl => ?_⟩
    by_cases hB : l ∈ B
    · exact h2 l hB
    · have hl : l = .slot t := by simpa [hB] using hl
      subst hl
      have e1 := Runs.frame h _ hB
      have e2 := Runs.frame h1 _ hB
      simp only [agree, St.V_put, if_pos] at e1 e2 ⊢
      rw [← e1, ← e2]
  | @putO t v k s s' A B h ih =>
    intro u hu
    obtain ⟨u', h1, h2⟩ := ih (u := u.putO t v) (fun l hl => (hu l hl).putO t v)
    refine ⟨u', .putO h1, fun l hl => ?_⟩
    by_cases hB : l ∈ B
    · exact h2 l hB
    · have hl : l = .ob t := by simpa [hB] using hl
      subst hl
      have e1 := Runs.frame h _ hB
      have e2 := Runs.frame h1 _ hB
      simp only [agree, St.O_putO, if_pos] at e1 e2 ⊢
      rw [← e1, ← e2]
  | @brT t p q s s' A B e h ih =>
    intro u hu
    obtain ⟨u', h1, h2⟩ := ih (u := u) (fun l hl => hu l (by simp [hl]))
    have e' : s.V t = u.V t := hu (.slot t) (by simp)
    exact ⟨u', .brT (by rw [← e', e]) h1, h2⟩
  | @brF t p q s s' A B e h ih =>
    intro u hu
    obtain ⟨u', h1, h2⟩ := ih (u := u) (fun l hl => hu l (by simp [hl]))
    have e' : s.V t = u.V t := hu (.slot t) (by simp)
    exact ⟨u', .brF (by rw [← e', e]) h1, h2⟩
  | ex b hb h ih =>
    intro u hu
    obtain ⟨u', h1, h2⟩ := ih hu
    exact ⟨u', .ex b hb h1, h2⟩
end Go.PV
namespace Go.PV
open Go Go.RowKit
abbrev Logs := List (List Loc × List Loc)
def regAny (P : Program) [Env P] (nt : Nat) (ops : List Oper) : List Oper → St → Logs → (Logs → St → Prop) → Prop
  | [], s, L, K => K L s
  | o :: r, s, L, K => (guardPr P nt ops o).wp s [] [] fun s' A B => regAny P nt ops r s' (L ++ [(A, B)]) K
theorem regAny_trace {P : Program} [Env P] {nt : Nat} {ops : List Oper} {K : Logs → St → Prop} : ∀ {r : List Oper} {s : St} {L : Logs}, regAny P nt ops r s L K → ∃ (M : Logs) (σ : Nat → St), M.length = r.length ∧ σ 0 = s ∧ K (L ++ M) (σ r.length) ∧
    ∀ (i : Nat) (o : Oper), r[i]? = some o → ∃ τ A B, Pr.Runs (guardPr P nt ops o) (σ i) τ A B ∧ τ.Eqv (σ (i + 1)) ∧ (∀ l, l ∈ A → l ∈ (M.getD i ([], [])).1) ∧ (∀ l, l ∈ (M.getD i ([], [])).2 ↔ l ∈ B)
  | [], s, L, h => ⟨[], fun _ => s, rfl, rfl, by simp only [regAny] at h; simpa using h, fun i o hi => by simp at hi⟩
  | o :: r, s, L, h => by
    simp only [regAny] at h
    obtain ⟨s', s'', A, B, h1, h2, h3⟩ := Pr.wp_runs h
    obtain ⟨M, σ, h4, h5, h6, h7⟩ := regAny_trace h3
    refine ⟨(A.reverse ++ [], B.reverse ++ []) :: M, fun | 0 => s | i + 1 => σ i, by simp [h4], rfl, by simpa using h6, fun i o' hi => ?_⟩
    cases i with
    | zero =>
      simp only [List.getElem?_cons_zero, Option.some.injEq] at hi; subst hi
      exact ⟨s', A, B, h1, by dsimp only; rw [h5]; exact h2, fun l hl => by simpa using hl, fun l => by simp⟩
    | succ i => exact h7 i o' (by simpa using hi)
section
variable {n : Nat} {σ : Nat → St} {W : Nat → List Loc}
def lw (W : Nat → List Loc) : Nat → (Nat → Bool) → Loc → Option Nat
  | 0, _, _ => none
  | k + 1, A, l => if A k = true ∧ l ∈ W k then some k else lw W k A l
def pickS (σ : Nat → St) : Option Nat → St
  | none => σ 0
  | some k => σ (k + 1)
theorem lw_eq {A : Nat → Bool} {l : Loc} : ∀ {n i : Nat}, i ≤ n → (∀ j, j < n → l ∈ W j → (A j = true ↔ j < i)) → lw W n A l = lw W i (fun _ => true) l
  | 0, i, hi, _ => by have : i = 0 := by omega
                      subst this; rfl
  | n + 1, i, hi, h => by
    simp only [lw]
    by_cases e : i = n + 1
    · subst e
      simp only [lw]
      by_cases hl : l ∈ W n
      · rw [if_pos ⟨(h n (by omega) hl).2 (by omega), hl⟩, if_pos ⟨trivial, hl⟩]
      · rw [if_neg (fun c => hl c.2), if_neg (fun c => hl c.2)]
        exact lw_eq (Nat.le_refl n) fun j hj hlj => ⟨fun _ => hj, fun _ => (h j (by omega) hlj).2 (by omega)⟩
    · rw [if_neg (fun c => by have := (h n (by omega) c.2).1 c.1; omega)]
      exact lw_eq (by omega) fun j hj hlj => h j (by omega) hlj
theorem lw_ins {A : Nat → Bool} {l : Loc} {i : Nat} (hl : l ∈ W i) (hA : A i = true) : ∀ {n : Nat}, i < n → (∀ j, j < n → i < j → l ∈ W j → A j = false) → lw W n A l = some i
  | 0, hi, _ => by omega
  | n + 1, hi, h => by
    simp only [lw]
    by_cases e : i = n
    · subst e; rw [if_pos ⟨hA, hl⟩]
    · rw [if_neg (fun c => by have := h n (by omega) (by omega) c.2; rw [this] at c; cases c.1)]
      exact lw_ins hl hA (by omega) fun j hj hij hlj => h j (by omega) hij hlj
theorem lw_same {A B : Nat → Bool} {l : Loc} : ∀ {n : Nat}, (∀ j, j < n → l ∈ W j → A j = B j) → lw W n A l = lw W n B l
  | 0, _ => rfl
  | n + 1, h => by
    simp only [lw]
    by_cases hl : l ∈ W n
    · rw [h n (by omega) hl, lw_same fun j hj hlj => h j (by omega) hlj]
    · rw [if_neg (fun c => hl c.2), if_neg (fun c => hl c.2), lw_same fun j hj hlj => h j (by omega) hlj]
theorem canon (hst : ∀ i, i < n → ∀ l, l ∉ W i → agree (σ i) (σ (i + 1)) l) : ∀ i, i ≤ n → ∀ l, agree (σ i) (pickS σ (lw W i (fun _ => true) l)) l
  | 0, _, l => .refl _ l
  | i + 1, hi, l => by
    simp only [lw]
    by_cases hl : l ∈ W i
    · rw [if_pos ⟨trivial, hl⟩]; exact .refl _ l
    · rw [if_neg (fun c => hl c.2)]
      exact (hst i (by omega) l hl).symm.trans (canon hst i (by omega) l)
end
/-- one step, wherever it comes -/
theorem any_step {P : Program} [Env P] {nt : Nat} {ops : List Oper} {M : Logs} {σ : Nat → St} (hchk : chk ops M = true)
    (htr : ∀ (i : Nat) (o : Oper), ops[i]? = some o → ∃ τ A B, Pr.Runs (guardPr P nt ops o) (σ i) τ A B ∧ τ.Eqv (σ (i + 1)) ∧ (∀ l, l ∈ A → l ∈ (M.getD i ([], [])).1) ∧ (∀ l, l ∈ (M.getD i ([], [])).2 ↔ l ∈ B))
    {A : Nat → Bool} (hA : ∀ (i : Nat) (o : Oper), ops[i]? = some o → A i = true → ∀ e ∈ o.after, bindsB e = true → A e.on = true) {u : St} (hu : ∀ l, agree u (pickS σ (lw (fun i => (M.getD i ([], [])).2) ops.length A l)) l)
    {i : Nat} {o : Oper} (ho : ops[i]? = some o) (hi : A i = false) (hd : ∀ e ∈ o.after, bindsB e = true → A e.on = true) {A' : Nat → Bool} (hA' : ∀ j, A' j = (if j = i then true else A j)) :
    ∃ u' X Y, Pr.Runs (guardPr P nt ops o) u u' X Y ∧ ∀ l, agree u' (pickS σ (lw (fun i => (M.getD i ([], [])).2) ops.length A' l)) l := by
  simp only [chk, Bool.and_eq_true] at hchk
  obtain ⟨he, hp⟩ := hchk
  have hin := (List.getElem?_eq_some_iff.1 ho).1
  have pair : ∀ j k, j < k → k < ops.length → ((masksGo ops []).getD k 0).testBit j = true ∨ noconf (M.getD j ([], [])) (M.getD k ([], [])) = true := by
    intro j k hjk hk
    have := List.all_eq_true.1 (List.all_eq_true.1 hp k (by simpa using hk)) j (by simpa using hjk)
    simpa using this
  have nc : ∀ {x y : List Loc × List Loc}, noconf x y = true → (∀ l ∈ x.2, l ∉ y.1) ∧ (∀ l ∈ x.2, l ∉ y.2) ∧ ∀ l ∈ y.2, l ∉ x.1 := by
    intro x y h
    simp only [noconf, Bool.and_eq_true] at h
    exact ⟨noneIn_spec h.1.1, noneIn_spec h.1.2, noneIn_spec h.2⟩
  have below : ∀ j, j < i → A j = false → noconf (M.getD j ([], [])) (M.getD i ([], [])) = true := by
    intro j hj hAj
    rcases pair j i hj hin with h | h
    · have := mask_closed (A := fun j => A j = true) he hA i o ho hd j h
      rw [hAj] at this; cases this
    · exact h
  have above : ∀ j, i < j → j < ops.length → A j = true → noconf (M.getD i ([], [])) (M.getD j ([], [])) = true := by
    intro j hj hjn hAj
    rcases pair i j hj hjn with h | h
    · have hoj := List.getElem?_eq_getElem hjn
      have := mask_closed (A := fun j => A j = true) he hA j _ hoj (hA j _ hoj hAj) i h
      rw [hi] at this; cases this
    · exact h
  obtain ⟨τ, X, Y, hrun, heq, hX, hY⟩ := htr i o ho
  have hst : ∀ i, i < ops.length → ∀ l, l ∉ (M.getD i ([], [])).2 → agree (σ i) (σ (i + 1)) l := by
    intro k hk l hl
    obtain ⟨τ', X', Y', h1, h2, h3, h4⟩ := htr k _ (List.getElem?_eq_getElem hk)
    exact (Runs.frame h1 l (fun hc => hl ((h4 l).2 hc))).trans (Eqv.agree h2 l)
  have hread : ∀ l ∈ X, agree (σ i) u l := by
    intro l hl
    have hlM := hX l hl
    have hlw : lw (fun i => (M.getD i ([], [])).2) ops.length A l = lw (fun i => (M.getD i ([], [])).2) i (fun _ => true) l := by
      refine lw_eq (by omega) fun j hj hlj => ⟨fun hAj => ?_, fun hji => ?_⟩
      · rcases Nat.lt_trichotomy j i with h | h | h
        · exact h
        · subst h; rw [hi] at hAj; cases hAj
        · exact absurd hlM ((nc (above j h hj hAj)).2.2 l hlj)
      · cases hAj : A j with
        | true => rfl
        | false => exact absurd hlM ((nc (below j hji hAj)).1 l hlj)
    have h1 := canon (n := ops.length) (W := fun i => (M.getD i ([], [])).2) hst i (by omega) l
    have h2 := hu l
    rw [hlw] at h2
    exact h1.trans h2.symm
  obtain ⟨u', h1, h2⟩ := Runs.local hrun hread
  refine ⟨u', X, Y, h1, fun l => ?_⟩
  by_cases hl : l ∈ Y
  · have hlM := (hY l).2 hl
    rw [lw_ins (W := fun i => (M.getD i ([], [])).2) hlM (by rw [hA', if_pos rfl]) hin (fun j hj hij hlj => by
      rw [hA', if_neg (by omega)]
      cases hAj : A j with
      | false => rfl
      | true => exact absurd hlj ((nc (above j hij hj hAj)).2.1 l hlM))]
    exact (h2 l hl).symm.trans (Eqv.agree heq l)
  · have hlM : l ∉ (M.getD i ([], [])).2 := fun hc => hl ((hY l).1 hc)
    rw [lw_same (B := A) (fun j hj hlj => by rw [hA', if_neg (fun e => by subst e; exact hlM hlj)])]
    exact (Runs.frame h1 l hl).symm.trans (hu l)
/-- a region that draws its order -/
theorem regAny_ok {P : Program} [Env P] {nt : Nat} {opsA : Array Oper} {E : Ent} {Q : Exit → Act → World → Prop} {K : St → Prop} (hnt : E.ok P nt) (hQ : ∀ s' a' w', K s' → R E s' a' w' → Q .normal a' w') {s : St} {a : Act} {w : World} (hR : R E s a w)
    (h : regAny P nt opsA.toList opsA.toList s [] fun L s' => chk opsA.toList L = true ∧ ∀ s'', s'.Eqv s'' → K s'') : wpAny P .any opsA Q opsA.size (Array.replicate opsA.size false) a w := by
  obtain ⟨M, σ, hlen, h0, ⟨hchk, hK⟩, htr⟩ := regAny_trace h
  simp only [List.nil_append] at hchk
  have hedge : edgesGo opsA.toList 0 = true := by simp only [chk, Bool.and_eq_true] at hchk; exact hchk.1
  have hst : ∀ i, i < opsA.toList.length → ∀ l, l ∉ (M.getD i ([], [])).2 → agree (σ i) (σ (i + 1)) l := by
    intro k hk l hl
    obtain ⟨τ', X', Y', h1, h2, h3, h4⟩ := htr k _ (List.getElem?_eq_getElem hk)
    exact (Runs.frame h1 l (fun hc => hl ((h4 l).2 hc))).trans (Eqv.agree h2 l)
  have main : ∀ (fuel : Nat) (listed : Array Bool) (u : St) (a : Act) (w : World), listed.size = opsA.size → listed.count false = fuel →
      (∀ (i : Nat) (o : Oper), opsA.toList[i]? = some o → listed.getD i false = true → ∀ e ∈ o.after, bindsB e = true → listed.getD e.on false = true) →
      (∀ l, agree u (pickS σ (lw (fun i => (M.getD i ([], [])).2) opsA.toList.length (fun i => listed.getD i false) l)) l) → R E u a w → wpAny P .any opsA Q fuel listed a w := by
    intro fuel
    induction fuel with
    | zero =>
      intro listed u a w hsz hcnt hdown hu hR
      have hall : ∀ i, i < listed.size → listed.getD i false = true := by
        intro i hi
        cases hb : listed.getD i false with
        | true => rfl
        | false =>
          have : false ∈ listed := by
            rw [Array.getD_eq_getD_getElem?, Array.getElem?_eq_getElem hi] at hb
            simp only [Option.getD_some] at hb
            rw [← hb]; exact Array.getElem_mem hi
          have := Array.count_pos_iff.2 this
          omega
      refine ⟨?_, ?_⟩
      · cases hr : Region.ready .any opsA listed with
        | nil => rfl
        | cons j _ =>
          have hj : j ∈ Region.ready .any opsA listed := by rw [hr]; simp
          obtain ⟨h1, o, h2, _⟩ := mem_ready.1 hj
          have hjl : j < listed.size := by rw [hsz]; exact (Array.getElem?_eq_some_iff.1 h2).1
          have := hall j hjl
          rw [Array.getD_eq_getD_getElem?, Array.getElem?_eq_getElem hjl] at this h1
          simp only [Option.getD_some] at this h1
          rw [h1] at this; cases this
      · refine hQ u a w (hK u ?_) hR
        refine eqv_of fun l => ?_
        have h1 := canon (n := opsA.toList.length) (W := fun i => (M.getD i ([], [])).2) hst opsA.toList.length (Nat.le_refl _) l
        have h2 := hu l
        rw [lw_same (B := fun _ => true) (fun j hj _ => hall j (by rw [hsz]; simpa using hj))] at h2
        exact h1.trans h2.symm
    | succ fuel ih =>
      intro listed u a w hsz hcnt hdown hu hR
      refine ⟨fun hnil => ?_, fun i hi => ?_⟩
      · exfalso
        have hmem : false ∈ listed := Array.count_pos_iff.1 (by omega)
        -- the least that is not listed is ready
        have key : ∀ k, k ≤ listed.size → ∀ j, j < k → listed.getD j false = true := by
          intro k
          induction k with
          | zero => intro _ j hj; omega
          | succ k ihk =>
            intro hk j hj
            by_cases e : j = k
            · subst e
              cases hb : listed.getD j false with
              | true => rfl
              | false =>
                have hjn : j < opsA.size := by omega
                have hoj := Array.getElem?_eq_getElem hjn
                have : j ∈ Region.ready .any opsA listed := by
                  refine mem_ready.2 ⟨?_, _, hoj, fun e he hbd => ?_⟩
                  · rw [Array.getD_eq_getD_getElem?, Array.getElem?_eq_getElem (by omega)] at hb ⊢; exact hb
                  · have := edgesGo_spec hedge j _ (by rw [Array.getElem?_toList]; exact hoj) e he hbd
                    exact ihk (by omega) e.on (by omega)
                rw [hnil] at this; cases this
            · exact ihk (by omega) j (by omega)
        obtain ⟨j, hj, hjv⟩ := Array.mem_iff_getElem.1 hmem
        have := key listed.size (Nat.le_refl _) j hj
        rw [Array.getD_eq_getD_getElem?, Array.getElem?_eq_getElem hj, Option.getD_some, hjv] at this; cases this
      · obtain ⟨h1, o, h2, h3⟩ := mem_ready.1 hi
        have hil : i < listed.size := by rw [hsz]; exact (Array.getElem?_eq_some_iff.1 h2).1
        have hif : listed.getD i false = false := by
          rw [Array.getD_eq_getD_getElem?, Array.getElem?_eq_getElem hil] at h1 ⊢; exact h1
        have hset : ∀ j, (listed.setIfInBounds i true).getD j false = (if j = i then true else listed.getD j false) := by
          intro j
          simp only [Array.getD_eq_getD_getElem?, Array.getElem?_setIfInBounds]
          by_cases e : i = j
          · subst e; simp [hil]
          · rw [if_neg e, if_neg (Ne.symm e)]
        obtain ⟨u', X, Y, hrun, hu'⟩ := any_step hchk htr (A := fun i => listed.getD i false) hdown hu (by rw [Array.getElem?_toList]; exact h2) hif h3 (A' := fun j => (listed.setIfInBounds i true).getD j false) hset
        obtain ⟨G, hR⟩ := hR
        refine guard_ok hnt hR h2 hrun.mwp fun s1 a' w' e hR' => ?_
        subst e
        refine ih _ _ _ _ (by simpa using hsz) ?_ (fun k ok hk hlk e he hbd => ?_) hu' hR'
        · have hc := Array.count_set (xs := listed) (i := i) (b := false) (a := true) hil
          rw [Array.setIfInBounds, dif_pos hil, hc]
          have hv : listed[i] = false := by rw [Array.getD_eq_getD_getElem?, Array.getElem?_eq_getElem hil] at hif; exact hif
          simp [hv]; omega
        · rw [hset] at hlk ⊢
          split
          · rfl
          · split at hlk
            · rename_i e2 e1
              subst e1
              rw [Array.getElem?_toList, h2] at hk; cases hk
              exact h3 e he hbd
            · exact hdown k ok hk hlk e he hbd
  refine main opsA.size _ s a w (by simp) (by simp) (fun i o hi hl => ?_) (fun l => ?_) hR
  · exfalso
    rw [Array.getD_eq_getD_getElem?, Array.getElem?_replicate] at hl
    split at hl <;> cases hl
  · have : ∀ n, lw (fun i => (M.getD i ([], [])).2) n (fun i => (Array.replicate opsA.size false).getD i false) l = none := by
      intro n
      induction n with
      | zero => rfl
      | succ n ih =>
        simp only [lw]
        rw [if_neg (fun c => by
          have := c.1
          rw [Array.getD_eq_getD_getElem?, Array.getElem?_replicate] at this
          split at this <;> cases this)]
        exact ih
    rw [this]
    simp only [pickS]; rw [h0]; exact .refl _ _
end Go.PV
namespace Go.PV
open Go Go.RowKit
def forceP (v : V) (k : V → Prop) : Prop := match v with
  | .dead => k .dead
  | .int i n => k (.int i n)
  | .bool b => k (.bool b)
  | .str l => k (.str l)
  | .nil => k .nil
  | .nilp => k .nilp
  | .nili => k .nili
  | .ifc => k .ifc
  | .fn f c => k (.fn f c)
  | .agg l => k (.agg l)
  | .tup l => k (.tup l)
  | .sl n xs => k (.sl n xs)
  | .own id g => k (.own id g)
  | .ptr id g off => k (.ptr id g off)
  | .elp id g i off => k (.elp id g i off)
  | .rp l => k (.rp l)
  | .mp id g => k (.mp id g)
  | .md d => k (.md d)
theorem forceP_eq (v : V) (k : V → Prop) : forceP v k = k v := by cases v <;> rfl
/-- only some slots -/
def pruneT : List Nat → List (Nat × V) → (List (Nat × V) → Prop) → Prop
  | [], _, K => K []
  | t :: ts, tm, K => match lkV tm t with
    | .dead => pruneT ts tm K
    | v => forceP v fun v => pruneT ts tm fun l => K ((t, v) :: l)
theorem pruneT_spec {tm : List (Nat × V)} : ∀ {ts : List Nat} {K : List (Nat × V) → Prop}, pruneT ts tm K → ∃ l, K l ∧ ∀ t, lkV l t = lkV tm t ∨ lkV l t = .dead
  | [], K, h => ⟨[], h, fun t => .inr rfl⟩
  | t :: ts, K, h => by
    simp only [pruneT] at h
    split at h
    · exact pruneT_spec h
    · rw [forceP_eq] at h
      obtain ⟨l, h1, h2⟩ := pruneT_spec h
      refine ⟨_, h1, fun u => ?_⟩
      rw [lkV_cons]
      split
      · rename_i e; subst e; exact .inl rfl
      · exact h2 u
/-- objects, each once -/
def seenB (id : Nat) : List Nat → Bool
  | [] => false
  | x :: xs => match Nat.beq x id with | true => true | false => seenB id xs
def pruneO : List Nat → List (Nat × Ob) → (List (Nat × Ob) → Prop) → Prop
  | _, [], K => K []
  | seen, (id, o) :: r, K => match seenB id seen with
    | true => pruneO seen r K
    | false => pruneO (id :: seen) r fun l => K ((id, o) :: l)
theorem seenB_iff {id : Nat} : ∀ {l : List Nat}, seenB id l = true ↔ id ∈ l
  | [] => by simp [seenB]
  | x :: xs => by
    simp only [seenB, List.mem_cons]
    cases h : Nat.beq x id with
    | true => simp [Nat.eq_of_beq_eq_true h]
    | false =>
      have := Nat.ne_of_beq_eq_false h
      simp only [seenB_iff (l := xs)]
      exact ⟨.inr, fun h => h.resolve_left (Ne.symm this)⟩
theorem pruneO_spec : ∀ {ob : List (Nat × Ob)} {seen : List Nat} {K : List (Nat × Ob) → Prop}, pruneO seen ob K → ∃ l, K l ∧ ∀ id, id ∉ seen → lk l id = lk ob id
  | [], seen, K, h => ⟨[], h, fun id _ => rfl⟩
  | (x, o) :: r, seen, K, h => by
    simp only [pruneO] at h
    split at h
    · rename_i hs
      obtain ⟨l, h1, h2⟩ := pruneO_spec h
      refine ⟨l, h1, fun id hid => ?_⟩
      rw [lk_cons, if_neg (fun e => by subst e; exact hid (seenB_iff.1 hs))]; exact h2 id hid
    · obtain ⟨l, h1, h2⟩ := pruneO_spec h
      refine ⟨_, h1, fun id hid => ?_⟩
      rw [lk_cons, lk_cons]
      split
      · rfl
      · rename_i hne
        exact h2 id (by simp only [List.mem_cons, not_or]; exact ⟨Ne.symm hne, hid⟩)
def prune (lv : List Nat) (s : St) (K : St → Prop) : Prop := pruneT lv s.tm fun tm => pruneO [] s.ob fun ob => K ⟨tm, ob⟩
theorem prune_ok {lv : List Nat} {s : St} {K : St → Prop} {E : Ent} {a : Act} {w : World} (h : prune lv s K) (hR : R E s a w) : ∃ s', K s' ∧ R E s' a w := by
  obtain ⟨tm, h1, h2⟩ := pruneT_spec h
  obtain ⟨ob, h3, h4⟩ := pruneO_spec h1
  obtain ⟨G, hR⟩ := hR
  have hO : (⟨tm, ob⟩ : St).O = s.O := funext fun id => h4 id (by simp)
  refine ⟨_, h3, G, hR.nt, hR.df, fun t => ?_, fun id o ho => ?_, hR.fr, fun id b hb => ?_⟩
  · rw [hO]
    rcases h2 t with e | e
    · have : (⟨tm, ob⟩ : St).V t = s.V t := e
      rw [this]; exact hR.tm t
    · have : (⟨tm, ob⟩ : St).V t = .dead := e
      rw [this]; exact .dead _
  · rw [hO] at ho ⊢; exact hR.ob id o ho
  · rw [hO]; exact hR.bxs id b hb
/-- what a piece of code does, told of states -/
def Ex (P : Program) [Env P] (nt : Nat) (c : Code) (s : St) (Q : Exit → St → Prop) : Prop :=
  ∀ (E : Ent) (a : Act) (w : World), E.ok P nt → R E s a w → c.wp P (fun e a' w' => ∃ s', Q e s' ∧ R E s' a' w') a w
structure SeqP (P : Program) [Env P] (nt : Nat) (x y : Code) (s : St) (Q : Exit → St → Prop) : Prop where
  ex : Ex P nt (.seq x y) s Q
/-- by what a piece of code is called, behind which ways meet -/
def jn : Code → Nat
  | .cond (.tmp t) _ _ => t
  | .seq _ c => jn c
  | .block id _ => 100000 + id
  | .region id _ _ => 200000 + id
  | _ => 0
structure LoopP (P : Program) [Env P] (nt : Nat) (c : Code) (s : St) (Q : Exit → St → Prop) : Prop where
  ex : Ex P nt (.loop c) s Q
def thenQ (next : St → Prop) (Q : Exit → St → Prop) (e : Exit) (s : St) : Prop := match e with
  | .normal => next s
  | .exit i => Q (.exit i) s
  | .goto l => Q (.goto l) s
  | .ret => Q .ret s
  | .panic c => Q (.panic c) s
  | .outgrown => Q .outgrown s
def blockQ (id : Nat) (Q : Exit → St → Prop) (e : Exit) (s : St) : Prop := match e with
  | .normal => Q .normal s
  | .exit i => match Nat.beq i id with
    | true => Q .normal s
    | false => Q (.exit i) s
  | .goto l => Q (.goto l) s
  | .ret => Q .ret s
  | .panic c => Q (.panic c) s
  | .outgrown => Q .outgrown s
def ev (P : Program) [Env P] (nt : Nat) (lv js : List Nat) : Code → St → (Exit → St → Prop) → Prop
  | .skip, s, Q => Q .normal s
  | .label _, s, Q => Q .normal s
  | .region _ ops d, s, Q => match d with
    | false => regSeq P nt ops.toList ops.toList s fun s' => prune lv s' fun s'' => Q .normal s''
    | true => regAny P nt ops.toList ops.toList s [] fun L s' => chk ops.toList L = true ∧ prune lv s' fun s'' => Q .normal s''
  | .seq x y, s, Q => match seenB (jn x) js with
    | true => SeqP P nt x y s Q
    | false => ev P nt lv js x s (thenQ (fun s' => ev P nt lv js y s' Q) Q)
  | .cond c x y, s, Q => match c with
    | .tmp t => match s.V t with
      | .bool b => branch b (ev P nt lv js x s Q) (ev P nt lv js y s Q)
      | _ => False
    | _ => False
  | .block id c, s, Q => ev P nt lv js c s (blockQ id Q)
  | .loop c, s, Q => LoopP P nt c s Q
  | .exit id, s, Q => Q (.exit id) s
  | .ret, s, Q => Q .ret s
  | _, _, _ => False
theorem ev_ok {P : Program} [Env P] (hP : P.follows .mixedOrders = true) {nt : Nat} {lv js : List Nat} : ∀ {c : Code} {s : St} {Q : Exit → St → Prop}, ev P nt lv js c s Q → Ex P nt c s Q
  | .skip, s, Q, h => fun E a w hnt hR => wp_skip ⟨s, h, hR⟩
  | .label _, s, Q, h => fun E a w hnt hR => wp_label ⟨s, h, hR⟩
  | .region _ ops false, s, Q, h => fun E a w hnt hR => by
    refine wp_region ?_
    have := regSeq_ok (opsA := ops) (K := fun s' => prune lv s' fun s'' => Q .normal s'') (Q := fun e a' w' => ∃ s', Q e s' ∧ R E s' a' w') hnt (fun s' a' w' hk hR' => prune_ok hk hR') ops.toList 0 s a w (fun j => by rw [Array.getElem?_toList, Nat.zero_add]) hR h
    rw [Array.length_toList] at this
    rw [List.range_eq_range']; exact this
  | .region _ ops true, s, Q, h => fun E a w hnt hR => by
    refine wp_region_any hP ?_
    have hR' : R E s a { w with drawn := w.drawn + 1 } := by
      obtain ⟨G, hR⟩ := hR
      have hst : ∀ b o c, stab G w b o c → stab G { w with drawn := w.drawn + 1 } b o c := fun _ _ _ h => h
      exact ⟨G, hR.upd (fun _ => rfl) ⟨hst, fun id o ho => ⟨o, ho, .inr ⟨rfl, rfl, rfl, fun _ => ⟨rfl, rfl⟩⟩⟩⟩ (fun id o ho => (hR.ob id o ho).mono ⟨hst, fun id o ho => ⟨o, ho, .inr ⟨rfl, rfl, rfl, fun _ => ⟨rfl, rfl⟩⟩⟩⟩ rfl rfl rfl (fun _ => ⟨rfl, rfl⟩))
        (hR.fr.trans rfl rfl rfl (Nat.le_refl _) hst (fun _ _ _ => ⟨rfl, rfl⟩) (fun _ _ _ => rfl)) (fun id b hb => .inl rfl)⟩
    have hmono : ∀ (r : List Oper) (s : St) (L : Logs), (regAny P nt ops.toList r s L fun L s' => chk ops.toList L = true ∧ prune lv s' fun s'' => Q .normal s'') → regAny P nt ops.toList r s L fun L s' => chk ops.toList L = true ∧ ∀ s'', s'.Eqv s'' → ∃ s', s'.Eqv s'' ∧ prune lv s' fun s'' => Q .normal s'' := by
      intro r
      induction r with
      | nil => intro s L h; exact ⟨h.1, fun s'' e => ⟨s, e, h.2⟩⟩
      | cons o r ih =>
        intro s L h
        simp only [regAny] at h ⊢
        have mono : ∀ (p : Pr) (s : St) (A B : List Loc) (K K' : St → List Loc → List Loc → Prop), (∀ s A B, K s A B → K' s A B) → p.wp s A B K → p.wp s A B K' := by
          intro p
          induction p with
          | done => intro s A B K K' hk h; exact hk _ _ _ h
          | fail => intro s A B K K' hk h; exact h
          | get t k ih => intro s A B K K' hk h; simp only [Pr.wp, forceW_eq] at h ⊢; exact ih _ _ _ _ _ _ hk h
          | put t v k ih => intro s A B K K' hk h; simp only [Pr.wp, St.putP_eq] at h ⊢; exact ih _ _ _ _ _ hk h
          | getO t k ih => intro s A B K K' hk h; exact ih _ _ _ _ _ _ hk h
          | putO t v k ih => intro s A B K K' hk h; simp only [Pr.wp, St.putOP_eq] at h ⊢; exact ih _ _ _ _ _ hk h
          | brs t p q ihp ihq =>
            intro s A B K K' hk h
            simp only [Pr.wp] at h ⊢
            split at h
            · rename_i b hb
              simp only [St.putP_eq] at h ⊢
              cases b with
              | true => exact ihp _ _ _ _ _ hk h
              | false => exact ihq _ _ _ _ _ hk h
            · exact h.elim
          | ex β φ k ih => intro s A B K K' hk h; obtain ⟨b, hb, h⟩ := h; exact ⟨b, hb, ih b _ _ _ _ _ hk h⟩
        exact mono _ _ _ _ _ _ (fun s A B h => ih s _ h) h
    exact regAny_ok (K := fun s'' => ∃ s', s'.Eqv s'' ∧ prune lv s' fun s'' => Q .normal s'') hnt (fun s' a' w' ⟨s1, e, hk⟩ hR' => by
      obtain ⟨G, hR'⟩ := hR'
      exact prune_ok hk ⟨G, hR'.eqv e.symm⟩) hR' (hmono _ _ _ h)
  | .seq x y, s, Q, h => fun E a w hnt hR => by
    simp only [ev] at h
    split at h
    · exact h.ex E a w hnt hR
    refine wp_seq (wp_mono (ev_ok hP h E a w hnt hR) ?_)
    rintro e a' w' ⟨s', hq, hR'⟩
    cases e with
    | normal => exact ev_ok hP hq E a' w' hnt hR'
    | exit i => exact ⟨s', hq, hR'⟩
    | goto l => exact ⟨s', hq, hR'⟩
    | ret => exact ⟨s', hq, hR'⟩
    | panic c => exact ⟨s', hq, hR'⟩
    | outgrown => exact ⟨s', hq, hR'⟩
  | .cond c x y, s, Q, h => fun E a w hnt hR => by
    simp only [ev] at h
    split at h
    · rename_i t
      split at h
      · rename_i b hb
        have hv : a.eval (.tmp t) = .bool b := by
          obtain ⟨G, hR⟩ := hR
          exact (hb ▸ hR.tm t : RV G w s.O (.bool b) _).bool_inv
        cases b with
        | true => exact wp_cond_true hv (ev_ok hP h E a w hnt hR)
        | false => exact wp_cond_false hv (ev_ok hP h E a w hnt hR)
      · exact h.elim
    · exact h.elim
  | .block id c, s, Q, h => fun E a w hnt hR => by
    have h : ev P nt lv js c s (blockQ id Q) := h
    refine wp_block (wp_mono (ev_ok hP h E a w hnt hR) ?_)
    rintro e a' w' ⟨s', hq, hR'⟩
    cases e with
    | normal => exact ⟨s', hq, hR'⟩
    | exit i =>
      simp only [Exit.inBlock]
      simp only [blockQ] at hq
      split at hq
      · rename_i e; rw [if_pos (Nat.eq_of_beq_eq_true e)]; exact ⟨s', hq, hR'⟩
      · rename_i e; rw [if_neg (Nat.ne_of_beq_eq_false e)]; exact ⟨s', hq, hR'⟩
    | goto l => exact ⟨s', hq, hR'⟩
    | ret => exact ⟨s', hq, hR'⟩
    | panic c => exact ⟨s', hq, hR'⟩
    | outgrown => exact ⟨s', hq, hR'⟩
  | .loop c, s, Q, h => h.ex
  | .exit id, s, Q, h => fun E a w hnt hR => wp_exit ⟨s, h, hR⟩
  | .ret, s, Q, h => fun E a w hnt hR => wp_ret ⟨s, h, hR⟩
  | .rangeFunc _ _ _ _, s, Q, h => h.elim
  | .scope _, s, Q, h => h.elim
  | .goto _, s, Q, h => h.elim
  | .refuse _, s, Q, h => h.elim
/-- a loop, by what is so at its head, with so many rounds at most to come -/
theorem wp_loop_ghost {P : Program} {c : Code} {Q : Exit → Act → World → Prop} (I : Nat → Act → World → Prop) (round : ∀ n a w, I n a w → c.wp P (Exit.then (fun a' w' => ∃ m, m < n ∧ I m a' w') Q) a w) (n : Nat) (a : Act) (w : World) (h : I n a w) : (Code.loop c).wp P Q a w := by
  intro b k cs
  have key : ∀ n a w, I n a w → ∃ e a' w', Q e a' w' ∧ Arrives P (lone (b.at a (.code c :: .inLoop c :: k)) cs w) b k cs e a' w' := by
    intro n
    induction n using Nat.strongRecOn with
    | _ n ih =>
      intro a w hI
      obtain ⟨e, a₁, w₁, hq, harr⟩ := round n a w hI b (.inLoop c :: k) cs
      cases e with
      | normal =>
        obtain ⟨m, hlt, hI₁⟩ := hq
        obtain ⟨e₂, a₂, w₂, hq₂, harr₂⟩ := ih m hlt a₁ w₁ hI₁
        exact ⟨e₂, a₂, w₂, hq₂, .of_steps (Steps.trans harr (.one step_inLoop)) harr₂⟩
      | exit id => exact ⟨_, a₁, w₁, hq, .pass (x := .inLoop c) rfl (fun _ _ => .inl (by simp)) harr⟩
      | goto l => exact ⟨_, a₁, w₁, hq, .pass (x := .inLoop c) rfl (fun _ _ => .inl (by simp)) harr⟩
      | ret => exact ⟨_, a₁, w₁, hq, .pass (x := .inLoop c) rfl (fun _ _ => .inl (by simp)) harr⟩
      | panic ch => exact ⟨_, a₁, w₁, hq, .pass (x := .inLoop c) rfl (fun _ _ => .inl (by simp)) harr⟩
      | outgrown => exact ⟨_, a₁, w₁, hq, .pass (x := .inLoop c) rfl (fun _ _ => .inl (by simp)) harr⟩
  obtain ⟨e, a', w', hq, harr⟩ := key n a w h
  exact ⟨e, a', w', hq, .of_steps (.one step_loop) harr⟩
end Go.PV
namespace Go.PV
open Go Go.RowKit
/-! a cut: some slots, some objects, all times set back -/
def okH (ob : List (Nat × Ob)) (ko : List Nat) (id g : Nat) : Bool := match Nat.blt id 64 || seenB id ko with
  | true => match lk ob id with
    | some o => Nat.beq o.gen g
    | none => false
  | false => false
def normB (ob : List (Nat × Ob)) (ko : List Nat) (v : V) : V := match v with
  | .own id g => match okH ob ko id g with | true => .own id 0 | false => .dead
  | .ptr id g off => match okH ob ko id g with | true => .ptr id 0 off | false => .dead
  | .mp id g => match okH ob ko id g with | true => .mp id 0 | false => .dead
  | .fn f cs => match cs with | [] => .fn f [] | _ :: _ => .dead
  | v => v
def normC (ob : List (Nat × Ob)) (ko : List Nat) (v : V) : V := match v with
  | .fn f cs => .fn f (cs.map (normB ob ko))
  | v => normB ob ko v
def normA (ob : List (Nat × Ob)) (ko : List Nat) (v : V) : V := match v with
  | .agg l => .agg (l.map (normC ob ko))
  | .tup _ => .dead
  | .elp _ _ _ _ => .dead
  | v => normC ob ko v
def normO (ob : List (Nat × Ob)) (ko : List Nat) (o : Ob) : Ob := match o with
  | .box _ cells => .box 0 (cells.map (normC ob ko))
  | .arr _ sh n xs => .arr 0 sh n xs
def mapP (f : V → V) : List V → (List V → Prop) → Prop
  | [], k => k []
  | v :: vs, k => forceP (f v) fun p => mapP f vs fun ps => k (p :: ps)
theorem mapP_eq (f : V → V) (l : List V) (k : List V → Prop) : mapP f l k = k (l.map f) := by
  induction l generalizing k with
  | nil => rfl
  | cons x xs ih => simp only [mapP, forceP_eq, ih, List.map_cons]
def normAP (ob : List (Nat × Ob)) (ko : List Nat) (v : V) (k : V → Prop) : Prop := match v with
  | .agg l => mapP (normC ob ko) l fun l' => k (.agg l')
  | .tup _ => k .dead
  | .elp _ _ _ _ => k .dead
  | v => forceP (normC ob ko v) k
theorem normAP_eq (ob : List (Nat × Ob)) (ko : List Nat) (v : V) (k : V → Prop) : normAP ob ko v k = k (normA ob ko v) := by
  cases v <;> simp only [normAP, normA, mapP_eq, forceP_eq]
def normOP (ob : List (Nat × Ob)) (ko : List Nat) (o : Ob) (k : Ob → Prop) : Prop := match o with
  | .box _ cells => mapP (normC ob ko) cells fun l => k (.box 0 l)
  | .arr _ sh n xs => k (.arr 0 sh n xs)
theorem normOP_eq (ob : List (Nat × Ob)) (ko : List Nat) (o : Ob) (k : Ob → Prop) : normOP ob ko o k = k (normO ob ko o) := by
  cases o <;> simp only [normOP, normO, mapP_eq]
def cutT (ob : List (Nat × Ob)) (ko : List Nat) : List Nat → List (Nat × V) → (List (Nat × V) → Prop) → Prop
  | [], _, K => K []
  | t :: ts, tm, K => normAP ob ko (lkV tm t) fun v => match v with
    | .dead => cutT ob ko ts tm K
    | v => cutT ob ko ts tm fun l => K ((t, v) :: l)
theorem cutT_spec {ob : List (Nat × Ob)} {ko : List Nat} {tm : List (Nat × V)} : ∀ {ts : List Nat} {K : List (Nat × V) → Prop}, cutT ob ko ts tm K → ∃ l, K l ∧ ∀ t, lkV l t = normA ob ko (lkV tm t) ∨ lkV l t = .dead
  | [], K, h => ⟨[], h, fun t => .inr rfl⟩
  | t :: ts, K, h => by
    simp only [cutT, normAP_eq] at h
    split at h
    · exact cutT_spec h
    · obtain ⟨l, h1, h2⟩ := cutT_spec h
      refine ⟨_, h1, fun u => ?_⟩
      rw [lkV_cons]
      split
      · rename_i e; subst e; exact .inl rfl
      · exact h2 u
/-- objects by their names -/
def insO (id : Nat) (o : Ob) : List (Nat × Ob) → List (Nat × Ob)
  | [] => [(id, o)]
  | (y, oy) :: r => match Nat.blt y id with
    | true => (y, oy) :: insO id o r
    | false => (id, o) :: (y, oy) :: r
def insP (id : Nat) (o : Ob) : List (Nat × Ob) → (List (Nat × Ob) → Prop) → Prop
  | [], k => k [(id, o)]
  | (y, oy) :: r, k => match Nat.blt y id with
    | true => insP id o r fun l => k ((y, oy) :: l)
    | false => k ((id, o) :: (y, oy) :: r)
theorem insP_eq (id : Nat) (o : Ob) : ∀ (l : List (Nat × Ob)) (k : List (Nat × Ob) → Prop), insP id o l k = k (insO id o l)
  | [], k => rfl
  | (y, oy) :: r, k => by
    simp only [insP, insO]
    cases Nat.blt y id with
    | true => exact insP_eq id o r _
    | false => rfl
theorem lk_insO (id : Nat) (o : Ob) : ∀ (l : List (Nat × Ob)) (t : Nat), lk (insO id o l) t = lk ((id, o) :: l) t
  | [], t => rfl
  | (y, oy) :: r, t => by
    simp only [insO]
    cases h : Nat.blt y id with
    | true =>
      have hne : y ≠ id := by have := Nat.le_of_ble_eq_true h; omega
      simp only [lk_cons, lk_insO id o r t]
      by_cases e : y = t
      · rw [if_pos e, if_neg (fun e2 => hne (e.trans e2.symm)), if_pos e]
      · rw [if_neg e]
        by_cases e2 : id = t
        · rw [if_pos e2, if_pos e2]
        · rw [if_neg e2, if_neg e2, if_neg e]
    | false => rfl
def cutO (ob0 : List (Nat × Ob)) (ko : List Nat) : List Nat → List (Nat × Ob) → (List (Nat × Ob) → Prop) → Prop
  | _, [], K => K []
  | seen, (id, o) :: r, K => match seenB id seen with
    | true => cutO ob0 ko seen r K
    | false => match Nat.blt id 64 || seenB id ko with
      | true => normOP ob0 ko o fun o' => cutO ob0 ko (id :: seen) r fun l => insP id o' l K
      | false => cutO ob0 ko (id :: seen) r K
theorem cutO_spec {ob0 : List (Nat × Ob)} {ko : List Nat} : ∀ {ob : List (Nat × Ob)} {seen : List Nat} {K : List (Nat × Ob) → Prop}, cutO ob0 ko seen ob K →
    ∃ l, K l ∧ (∀ id, id ∉ seen → lk l id = if (Nat.blt id 64 || seenB id ko) = true then (lk ob id).map (normO ob0 ko) else none) ∧ ∀ id, (Nat.blt id 64 || seenB id ko) = false → lk l id = none
  | [], seen, K, h => ⟨[], h, fun id _ => by simp [lk], fun _ _ => rfl⟩
  | (y, oy) :: r, seen, K, h => by
    simp only [cutO] at h
    split at h
    · rename_i hs
      obtain ⟨l, a1, a2, a3⟩ := cutO_spec h
      refine ⟨l, a1, fun id hid => ?_, a3⟩
      have hne : y ≠ id := fun e => by subst e; exact hid (seenB_iff.1 hs)
      rw [lk_cons y oy r id, if_neg hne]; exact a2 id hid
    · split at h
      · rename_i hky
        rw [normOP_eq] at h
        obtain ⟨l, a1, a2, a3⟩ := cutO_spec h
        rw [insP_eq] at a1
        refine ⟨_, a1, fun id hid => ?_, fun id hid => ?_⟩
        · rw [lk_insO, lk_cons, lk_cons]
          split
          · rename_i e; subst e; rw [if_pos hky]; rfl
          · rename_i hne
            exact a2 id (by simp only [List.mem_cons, not_or]; exact ⟨Ne.symm hne, hid⟩)
        · rw [lk_insO, lk_cons, if_neg (fun e => by subst e; rw [hky] at hid; cases hid)]; exact a3 id hid
      · rename_i hky
        obtain ⟨l, a1, a2, a3⟩ := cutO_spec h
        refine ⟨_, a1, fun id hid => ?_, a3⟩
        by_cases e : y = id
        · subst e; rw [hky]; exact a3 _ hky
        · rw [lk_cons y oy r id, if_neg e]
          exact a2 id (by simp only [List.mem_cons, not_or]; exact ⟨Ne.symm e, hid⟩)
/-- nil slices made one's own: a slot's, a cell's -/
inductive Gr where
  | slot (t n : Nat)
  | cell (b j n : Nat)
  | dat (b j n : Nat)
  | dal (b j m : Nat)
def genP (old : Option Ob) (k : Nat → Prop) : Prop := match old with
  | none => k 0
  | some (.box g _) => k (g + 1)
  | some (.arr g _ _ _) => k (g + 1)
theorem genP_spec {old : Option Ob} {k : Nat → Prop} (h : genP old k) : ∃ g, (∀ o, old = some o → o.gen < g) ∧ k g := by
  unfold genP at h
  split at h
  · exact ⟨0, fun o e => (by cases e), h⟩
  · exact ⟨_, fun o e => (by cases e; exact Nat.lt_succ_self _), h⟩
  · exact ⟨_, fun o e => (by cases e; exact Nat.lt_succ_self _), h⟩
def setP (l : List V) (j : Nat) (v : V) (k : List V → Prop) : Prop := match l, j with
  | [], _ => k []
  | _ :: xs, 0 => k (v :: xs)
  | x :: xs, j + 1 => setP xs j v fun ys => k (x :: ys)
theorem setP_eq (l : List V) (j : Nat) (v : V) (k : List V → Prop) : setP l j v k = k (l.set j v) := by
  induction l generalizing j k with
  | nil => rfl
  | cons x xs ih => cases j with
    | zero => rfl
    | succ j => simp only [setP, ih, List.set_cons_succ]
/-- the name of an object that a cell's nil becomes -/
def cellId (b j : Nat) : Nat := 100000 + 64 * b + j
def growP : List Gr → St → (St → Prop) → Prop
  | [], s, K => K s
  | .slot t n :: r, s, K => match s.V t with
    | .nil => genP (s.O (64 + t)) fun g => growP r ((s.put t (.own (64 + t) g)).putO (64 + t) (.arr g false n [])) K
    | _ => growP r s K
  | .cell b j n :: r, s, K => match s.O b with
    | some (.box gb cells) => match cells[j]? with
      | some .nil => genP (s.O (cellId b j)) fun g => setP cells j (.own (cellId b j) g) fun cells' => match Nat.beq (cellId b j) b with
        | true => False
        | false => growP r ((s.putO (cellId b j) (.arr g false n [])).putO b (.box gb cells')) K
      | _ => growP r s K
    | _ => growP r s K
  | .dat b j n :: r, s, K => match s.O b with
    | some (.box gb cells) => match cells[j]? with
      | some .nil => setP cells j (.sl n []) fun cells' => growP r (s.putO b (.box gb cells')) K
      | _ => growP r s K
    | _ => growP r s K
  | .dal b j m :: r, s, K => match s.O b with
    | some (.arr g sh n xs) => ∃ ys z, xs = ys ++ [z] ∧ z[j]? = some .nil ∧ growP r (s.putO b (.arr g sh n (ys ++ [z.set j (.sl m [])]))) K
    | _ => growP r s K
theorem RG.redesc {E : Ent} {G : Gh} {s : St} {a : Act} {w : World} (h : RG E G s a w) {t : Nat} {p : V} (hv : RV G w s.O p (a.tmps.getD t undef)) : RG E G (s.put t p) a w where
  nt := h.nt
  df := h.df
  tm u := by
    rw [St.V_put]
    split
    · rename_i e; subst e; exact hv
    · exact h.tm u
  ob := h.ob
  fr := h.fr
  bxs := h.bxs
theorem growP_ok {E : Ent} {a : Act} {w : World} {K : St → Prop} : ∀ {r : List Gr} {s : St} {G : Gh}, RG E G s a w → growP r s K → ∃ s' G', K s' ∧ RG E G' s' a w
  | [], s, G, hR, h => ⟨s, G, h, hR⟩
  | .slot t n :: r, s, G, hR, h => by
    simp only [growP] at h
    split at h
    · rename_i e
      obtain ⟨g, hg, h⟩ := genP_spec h
      have hid : E.bx (64 + t) = none := by cases e : E.bx (64 + t) with | none => rfl | some b => have := (hR.fr.bx _ b e).1; omega
      have h1 : RG E _ (s.putO (64 + t) (.arr g false n [])) a w := nilG_rg hR hid hg
      have hv := hR.tm t
      rw [e] at hv
      have h2 := h1.redesc (t := t) (p := .own (64 + t) g) (by rw [hv.nil_inv]; exact nilOwn (by simp [nilG, upd_same]) (by rw [St.O_putO, if_pos rfl]))
      exact growP_ok h2 h
    · exact growP_ok hR h
  | .cell b j n :: r, s, G, hR, h => by
    simp only [growP] at h
    split at h
    · rename_i gb cells hb
      split at h
      · rename_i hj
        obtain ⟨g, hg, h⟩ := genP_spec h
        rw [setP_eq] at h
        split at h
        · exact h.elim
        · rename_i hne
          have hne := Nat.ne_of_beq_eq_false hne
          have hid : E.bx (cellId b j) = none := by cases e : E.bx (cellId b j) with | none => rfl | some b' => have := (hR.fr.bx _ b' e).1; simp only [cellId] at this; omega
          have h1 : RG E _ (s.putO (cellId b j) (.arr g false n [])) a w := nilG_rg hR hid hg
          have hb1 : (s.putO (cellId b j) (.arr g false n [])).O b = some (.box gb cells) := by rw [St.O_putO, if_neg hne]; exact hb
          have hO2 : ((s.putO (cellId b j) (.arr g false n [])).putO b (.box gb (cells.set j (.own (cellId b j) g)))).O (cellId b j) = some (.arr g false n []) := by
            rw [St.O_putO, if_neg (Ne.symm hne), St.O_putO, if_pos rfl]
          have hg2 : (Ob.box gb cells).gen < (Ob.box gb (cells.set j (.own (cellId b j) g))).gen ∨ (Ob.box gb cells).gen = (Ob.box gb (cells.set j (.own (cellId b j) g))).gen ∧ (Ob.box gb cells).sig = (Ob.box gb (cells.set j (.own (cellId b j) g))).sig := .inr ⟨rfl, rfl⟩
          have hle := sam_le (G := nilG G (cellId b j)) (w := w) hb1 hg2
          have h2 := sam_rg h1 hb1 (.inr ⟨_, _, rfl⟩) hg2 (by
            cases h1.ob b _ hb1 with
            | mp _ d _ _ _ _ _ => cases j with
              | zero => simp at hj
              | succ j => simp at hj
            | box _ _ cs T hh hw hc =>
              refine .box _ _ cs T hh hw ⟨by rw [hc.1]; simp, fun i p hi => ?_⟩
              rw [List.getElem?_set] at hi
              split at hi
              · rename_i e
                subst e
                split at hi
                · cases hi
                  obtain ⟨c, h3, h4⟩ := hc.2 _ _ hj
                  refine ⟨c, h3, ?_⟩
                  have h5 : c = .slice none 0 0 := (RV.any _ _ (.cell _ _ h4)).nil_inv
                  subst h5
                  exact .own _ _ _ _ rfl hO2 (Nat.le_refl _) fun m len _ e => by simp [hdr, nilG, upd_same]
                · cases hi
              · obtain ⟨c, h3, h4⟩ := hc.2 _ _ hi
                exact ⟨c, h3, h4.mono hle⟩)
          exact growP_ok h2 h
      · exact growP_ok hR h
    · exact growP_ok hR h
  | .dat b j n :: r, s, G, hR, h => by
    simp only [growP] at h
    split at h
    · rename_i gb cells hb
      split at h
      · rename_i hj
        rw [setP_eq] at h
        have hg2 : (Ob.box gb cells).gen < (Ob.box gb (cells.set j (.sl n []))).gen ∨ (Ob.box gb cells).gen = (Ob.box gb (cells.set j (.sl n []))).gen ∧ (Ob.box gb cells).sig = (Ob.box gb (cells.set j (.sl n []))).sig := .inr ⟨rfl, rfl⟩
        have hle := sam_le (G := G) (w := w) hb hg2
        have h2 := sam_rg hR hb (.inr ⟨_, _, rfl⟩) hg2 (by
          cases hR.ob b _ hb with
          | mp _ d _ _ _ _ _ => cases j with
            | zero => simp at hj
            | succ j => simp at hj
          | box _ _ cs T hh hw hc =>
            refine .box _ _ cs T hh hw ⟨by rw [hc.1]; simp, fun i p hi => ?_⟩
            rw [List.getElem?_set] at hi
            split at hi
            · rename_i e
              subst e
              split at hi
              · cases hi
                obtain ⟨c, h3, h4⟩ := hc.2 _ _ hj
                refine ⟨c, h3, ?_⟩
                have h5 : c = .slice none 0 0 := (RV.any _ _ (.cell _ _ h4)).nil_inv
                subst h5
                exact .sh _ _ (.sl0 _ _ _)
              · cases hi
            · obtain ⟨c, h3, h4⟩ := hc.2 _ _ hi
              exact ⟨c, h3, h4.mono hle⟩)
        exact growP_ok h2 h
      · exact growP_ok hR h
    · exact growP_ok hR h
  | .dal b j m :: r, s, G, hR, h => by
    simp only [growP] at h
    split at h
    · rename_i g sh n xs hb
      obtain ⟨ys, z, hx, hz, h⟩ := h
      subst hx
      have hg2 : (Ob.arr g sh n (ys ++ [z])).gen < (Ob.arr g sh n (ys ++ [z.set j (.sl m [])])).gen ∨ (Ob.arr g sh n (ys ++ [z])).gen = (Ob.arr g sh n (ys ++ [z.set j (.sl m [])])).gen ∧ (Ob.arr g sh n (ys ++ [z])).sig = (Ob.arr g sh n (ys ++ [z.set j (.sl m [])])).sig := .inr ⟨rfl, by simp [Ob.sig]⟩
      have hle := sam_le (G := G) (w := w) hb hg2
      have h2 := sam_rg hR hb (.inl (hR.arr_bx hb)) hg2 (by
        generalize hq : ys ++ [z] = q at hb
        have hro := hR.ob b _ hb
        cases hro with
        | nil => simp at hq
        | arr _ _ _ _ cs T lim hn hb' hw h0 hl hc hzz hs ht hh =>
          subst hq
          refine .arr _ _ _ _ cs T lim hn hb' hw h0 (fun i x hi => ?_) (by simpa using hc) hzz hs (by simpa using ht) (fun i x k p hi hk => ?_)
          · rw [List.getElem?_append] at hi
            split at hi
            · rename_i hlt
              exact hl i x (by rw [List.getElem?_append_left hlt]; exact hi)
            · rename_i hge
              have := hl i z
              cases hk : i - ys.length with
              | zero =>
                rw [hk] at hi
                simp only [List.getElem?_cons_zero, Option.some.injEq] at hi
                subst hi
                rw [List.length_set]
                exact this (by rw [List.getElem?_append_right (by omega), hk]; rfl)
              | succ q => rw [hk] at hi; simp at hi
          · rw [List.getElem?_append] at hi
            split at hi
            · rename_i hlt
              obtain ⟨c, q1, q2⟩ := hh i x k p (by rw [List.getElem?_append_left hlt]; exact hi) hk
              exact ⟨c, q1, q2.mono hle.hs⟩
            · rename_i hge
              have hhz := hh i z
              cases hq : i - ys.length with
              | zero =>
                rw [hq] at hi
                simp only [List.getElem?_cons_zero, Option.some.injEq] at hi
                subst hi
                have hhz := hhz k
                have hiz : (ys ++ [z])[i]? = some z := by rw [List.getElem?_append_right (by omega), hq]; rfl
                rw [List.getElem?_set] at hk
                split at hk
                · rename_i e
                  subst e
                  split at hk
                  · cases hk
                    obtain ⟨c, q1, q2⟩ := hhz _ hiz hz
                    cases q2
                    exact ⟨_, q1, .sl0 _ _ _⟩
                  · cases hk
                · obtain ⟨c, q1, q2⟩ := hhz p hiz hk
                  exact ⟨c, q1, q2.mono hle.hs⟩
              | succ q => rw [hq] at hi; simp at hi)
      exact growP_ok h2 h
    · exact growP_ok hR h
def cutS (lv ko : List Nat) (gr : List Gr) (s : St) (K : St → Prop) : Prop := growP gr s fun s => cutT s.ob ko lv s.tm fun tm => cutO s.ob ko [] s.ob fun ob => K ⟨tm, ob⟩
theorem cutS_ok {lv ko : List Nat} {gr : List Gr} {s : St} {K : St → Prop} {E : Ent} {a : Act} {w : World} (h : cutS lv ko gr s K) (hR : R E s a w) : ∃ s', K s' ∧ R E s' a w := by
  obtain ⟨G, hR⟩ := hR
  obtain ⟨s, G, h, hR⟩ := growP_ok hR h
  obtain ⟨tm, h, hT⟩ := cutT_spec h
  obtain ⟨ob, h, hO, _⟩ := cutO_spec h
  have hO' : ∀ id, (⟨tm, ob⟩ : St).O id = if (Nat.blt id 64 || seenB id ko) = true then (s.O id).map (normO s.ob ko) else none := fun id => hO id (by simp)
  have hok : ∀ {id g : Nat}, okH s.ob ko id g = true → (Nat.blt id 64 || seenB id ko) = true ∧ ∃ o, s.O id = some o ∧ o.gen = g := by
    intro id g h
    unfold okH at h
    split at h
    · rename_i hk
      split at h
      · rename_i o ho; exact ⟨hk, o, ho, Nat.eq_of_beq_eq_true h⟩
      · cases h
    · cases h
  have hsig : ∀ o, (normO s.ob ko o).sig = o.sig := fun o => by cases o <;> rfl
  have hgen : ∀ o, (normO s.ob ko o).gen = 0 := fun o => by cases o <;> rfl
  have nB : ∀ {p : V} {v : Value}, RC G w s.O p v → RC G w (⟨tm, ob⟩ : St).O (normB s.ob ko p) v := by
    intro p v hp
    have h1 := hp.one
    cases hp with
    | dead => exact .dead _ h1
    | sh p v hp =>
      have : normB s.ob ko p = p := by cases hp <;> rfl
      rw [this]; exact .sh _ _ hp
    | own id gen o v _ ho hg hv =>
      simp only [normB]
      split
      · rename_i e
        obtain ⟨hk, o', ho', hg'⟩ := hok e
        rw [ho] at ho'; cases ho'
        exact .own _ _ (normO s.ob ko o) _ h1 (by rw [hO', if_pos hk, ho]; rfl) (Nat.zero_le _) fun n len _ e => hv n len hg'.symm (by rw [← hsig]; exact e)
      · exact .dead _ h1
    | ptr id gen off o v _ ho hg hv =>
      simp only [normB]
      split
      · rename_i e
        obtain ⟨hk, o', ho', hg'⟩ := hok e
        rw [ho] at ho'; cases ho'
        exact .ptr _ _ _ (normO s.ob ko o) _ h1 (by rw [hO', if_pos hk, ho]; rfl) (Nat.zero_le _) fun _ e => hv hg'.symm (by rw [← hsig]; exact e)
      · exact .dead _ h1
    | mp id gen o v _ ho hg hv =>
      simp only [normB]
      split
      · rename_i e
        obtain ⟨hk, o', ho', hg'⟩ := hok e
        rw [ho] at ho'; cases ho'
        exact .mp _ _ (normO s.ob ko o) _ h1 (by rw [hO', if_pos hk, ho]; rfl) (Nat.zero_le _) fun _ e => hv hg'.symm (by rw [← hsig]; exact e)
      · exact .dead _ h1
    | fn f caps cs c hl hc hh =>
      cases caps with
      | nil => exact .fn _ _ cs c hl hc (fun i p hi => by simp at hi)
      | cons x xs => exact .dead _ h1
  have nC : ∀ {p : V} {v : Value}, RC G w s.O p v → RC G w (⟨tm, ob⟩ : St).O (normC s.ob ko p) v := by
    intro p v hp
    cases p with
    | fn f caps =>
      obtain ⟨cs, h1, h2⟩ := (RV.any _ _ (.cell _ _ hp)).fn_inv
      subst h1
      refine .fn _ _ cs (fun i => cs.getD i undef) (by rw [h2.1]; simp) (fun i hi => ?_) fun i p hi => ?_
      · have : i < cs.size := by rw [h2.1]; simpa using hi
        rw [Array.getElem?_eq_getElem this, Array.getD_eq_getD_getElem?, Array.getElem?_eq_getElem this]; rfl
      · rw [List.getElem?_map] at hi
        cases hq : caps[i]? with
        | none => rw [hq] at hi; cases hi
        | some q =>
          rw [hq] at hi; simp only [Option.map_some, Option.some.injEq] at hi; subst hi
          obtain ⟨c, h3, h4⟩ := h2.2 i q hq
          rw [Array.getD_eq_getD_getElem?, h3]; exact nB h4
    | _ => exact nB hp
  have nCs : ∀ {l : List V} {cs : Array Value}, Cells (RC G w s.O) l cs → Cells (RC G w (⟨tm, ob⟩ : St).O) (l.map (normC s.ob ko)) cs := fun h => h.map_up (q := fun _ => true) (fun _ _ h _ => nC h) (by simp)
  have nA : ∀ {p : V} {v : Value}, RV G w s.O p v → RV G w (⟨tm, ob⟩ : St).O (normA s.ob ko p) v := by
    intro p v hp
    cases p with
    | agg l =>
      obtain ⟨cs, h1, h2⟩ := hp.agg_inv
      subst h1
      exact .any _ _ (.agg _ _ (nCs h2))
    | tup l => exact .dead _
    | elp => exact .dead _
    | rp l =>
      cases hp with
      | any _ _ h => cases h with | cell _ _ h => cases h with | sh _ _ h => cases h
      | rp _ b off h => exact .rp _ _ _ h
    | dead => exact .dead _
    | _ =>
      cases hp with
      | any _ _ h =>
        have h3 := nC (h.not_agg (by simp))
        exact .any _ _ (.cell _ _ h3)
  refine ⟨_, h, G, hR.nt, hR.df, fun t => ?_, fun id o ho => ?_, hR.fr, fun id b hb => ?_⟩
  · rcases hT t with e | e
    · have : (⟨tm, ob⟩ : St).V t = normA s.ob ko (s.V t) := e
      rw [this]; exact nA (hR.tm t)
    · have : (⟨tm, ob⟩ : St).V t = .dead := e
      rw [this]; exact .dead _
  · rw [hO'] at ho
    split at ho
    · cases hs : s.O id with
      | none => rw [hs] at ho; cases ho
      | some o0 =>
        rw [hs] at ho; simp only [Option.map_some, Option.some.injEq] at ho; subst ho
        cases hR.ob id o0 hs with
        | box g cells cs T h1 h2 h3 => exact .box _ _ cs T h1 h2 (nCs h3)
        | mp g d es clock h1 h2 h3 => exact .mp _ _ es clock h1 h2 h3
        | nil g sh n hn => exact .nil _ _ _ hn
        | arr g sh n xs cs T lim h1 h2 h3 h4 h5 h6 h7 h8 h9 h10 => exact .arr _ _ _ _ cs T lim h1 h2 h3 h4 h5 h6 h7 h8 h9 h10
    · cases ho
  · obtain ⟨g, c, e⟩ := hR.bxs id b hb
    have : Nat.blt id 64 = true := by simpa using (hR.fr.bx id b hb).1
    rw [hO', if_pos (by rw [this]; rfl), e]
    exact ⟨0, c.map (normC s.ob ko), rfl⟩
/-- a loop: what is so at its head, behind a cut, with so many rounds at most to come -/
theorem loop_of {P : Program} [Env P] (hP : P.follows .mixedOrders = true) {nt : Nat} {c : Code} {s : St} {Q : Exit → St → Prop} (lv js lc ko : List Nat) (gr : List Gr) (I : Nat → St → Prop) (n : Nat) (h0 : cutS lc ko gr s (I n))
    (h : ∀ n s, I n s → ev P nt lv js c s (thenQ (fun s' => cutS lc ko gr s' fun s'' => ∃ m, m < n ∧ I m s'') Q)) : LoopP P nt c s Q := by
  refine ⟨fun E a w hnt hR => ?_⟩
  obtain ⟨s', hI, hR⟩ := cutS_ok h0 hR
  refine wp_loop_ghost (fun n a w => ∃ s, I n s ∧ R E s a w) (fun n a w hn => ?_) n a w ⟨s', hI, hR⟩
  obtain ⟨s, hI, hR⟩ := hn
  refine wp_mono (ev_ok hP (h n s hI) E a w hnt hR) ?_
  rintro e a' w' ⟨s', hq, hR'⟩
  cases e with
  | normal =>
    have hq : cutS lc ko gr s' fun s'' => ∃ m, m < n ∧ I m s'' := hq
    obtain ⟨s'', ⟨m, hm, hI'⟩, hR''⟩ := cutS_ok hq hR'
    exact ⟨m, hm, s'', hI', hR''⟩
  | exit i => exact ⟨s', hq, hR'⟩
  | goto l => exact ⟨s', hq, hR'⟩
  | ret => exact ⟨s', hq, hR'⟩
  | panic c => exact ⟨s', hq, hR'⟩
  | outgrown => exact ⟨s', hq, hR'⟩
/-- ways that meet -/
theorem seq_of {P : Program} [Env P] (hP : P.follows .mixedOrders = true) {nt : Nat} {x y : Code} {s : St} {Q : Exit → St → Prop} (lv js lc ko : List Nat) (gr : List Gr) (J : St → Prop)
    (h : ev P nt lv js x s (thenQ (fun s' => cutS lc ko gr s' J) Q)) (h2 : ∀ s, J s → ev P nt lv js y s Q) : SeqP P nt x y s Q := by
  refine ⟨fun E a w hnt hR => wp_seq (wp_mono (ev_ok hP h E a w hnt hR) ?_)⟩
  rintro e a' w' ⟨s', hq, hR'⟩
  cases e with
  | normal =>
    have hq : cutS lc ko gr s' J := hq
    obtain ⟨s'', hJ, hR''⟩ := cutS_ok hq hR'
    exact ev_ok hP (h2 s'' hJ) E a' w' hnt hR''
  | exit i => exact ⟨s', hq, hR'⟩
  | goto l => exact ⟨s', hq, hR'⟩
  | ret => exact ⟨s', hq, hR'⟩
  | panic c => exact ⟨s', hq, hR'⟩
  | outgrown => exact ⟨s', hq, hR'⟩
theorem branch_of {b : Bool} {p q : Prop} (h1 : b = true → p) (h2 : b = false → q) : branch b p q := by
  cases b
  · exact h2 rfl
  · exact h1 rfl
end Go.PV
namespace Go.PV
open Go Go.RowKit
/-! a function's contract, out of its body -/
def resK (P : Program) : List ResultVar → (List V → Pr) → Pr
  | [], k => k []
  | .tmp t :: r, k => .get t fun v => resK P r fun vs => k (v :: vs)
  | .cell a t :: r, k => .get a fun v => match v with
    | .ptr id gen off => boxK id gen fun cells => ldK P t (cells.drop off) fun p => resK P r fun vs => k (p :: vs)
    | _ => .fail
def incK : Nat → Nat → (Ids → Pr) → Pr
  | _, 0, k => k []
  | b, m + 1, k => .getO b fun o => match o with
    | some (.box g _) => incK (b + 1) m fun ids => k ((b, g) :: ids)
    | some (.arr g _ _ _) => incK (b + 1) m fun ids => k ((b, g) :: ids)
    | none => .fail
def distA : Ids → Bool
  | [] => true
  | (id, _) :: ids => ids.all (fun p => !Nat.beq p.1 id) && distA ids
def kindB : List Ob → List Ob → Bool
  | [], _ => true
  | .box _ _ :: r, .box _ _ :: s => kindB r s
  | .box _ _ :: _, _ => false
  | .arr _ _ _ _ :: r, s => kindB r s.tail
def anySl : List V → Bool
  | [] => false
  | .sl _ _ :: _ => true
  | _ :: l => anySl l
/-- a result of one's own that is to be data -/
def nOf (os' : List Ob) (k : Nat) : Nat := match os'[k]? with
  | some (.arr _ _ n _) => n
  | _ => 1
def shT (os' : List Ob) (t v : V) (k : V → Pr) : Pr := match t with
  | .sl n _ => match v with
    | .nil => k (.sl n [])
    | v => shA v k
  | .agg l => match anySl l with
    | true => shA v fun q => k (nilA (.agg l) q)
    | false => k v
  | .own j _ => match v with
    | .nil => .getO (200000 + j) fun old => genK old fun g => .putO (200000 + j) (.arr g false (nOf os' j) []) (k (.own (200000 + j) g))
    | v => k v
  | _ => k v
def shTL (os' : List Ob) : List V → List V → (List V → Pr) → Pr
  | t :: ts, v :: vs, k => shT os' t v fun p => shTL os' ts vs fun ps => k (p :: ps)
  | _, vs, k => k vs
def finPr (P : Program) (rs : List ResultVar) (m : Nat) (res : List V) (os' : List Ob) : Pr :=
  resK P rs fun us => shTL os' res us fun vs => incK 0 m fun inc => .ex Ids (fun nw => vs = res.map (renA (inc ++ nw))) fun nw => match distA (inc ++ nw) with
    | true => getsK (inc ++ nw) (inc ++ nw) os' .done
    | false => .fail
/-- at the end of the body -/
def fin (P : Program) (rs : List ResultVar) (m : Nat) (res : List V) (os' : List Ob) (e : Exit) (s : St) : Prop := match e with
  | .normal => (finPr P rs m res os').wp s [] [] fun _ _ _ => True
  | .ret => (finPr P rs m res os').wp s [] [] fun _ _ _ => True
  | _ => False
def inT : Nat → List V → List (Nat × V)
  | _, [] => []
  | i, v :: vs => (i, v) :: inT (i + 1) vs
def inO : Nat → List Ob → List (Nat × Ob)
  | _, [] => []
  | i, o :: os => (i, o) :: inO (i + 1) os
theorem inT_spec : ∀ (l : List V) (i t : Nat), lkV (inT i l) t = if i ≤ t then (l[t - i]?).getD .dead else .dead
  | [], i, t => by simp [inT, lkV]
  | v :: vs, i, t => by
    rw [inT, lkV_cons, inT_spec vs (i + 1) t]
    by_cases h : i = t
    · subst h; simp
    · rw [if_neg h]
      by_cases h2 : i ≤ t
      · rw [if_pos h2, if_pos (by omega), show t - i = (t - (i + 1)) + 1 by omega, List.getElem?_cons_succ]
      · rw [if_neg h2, if_neg (by omega)]
theorem inO_spec : ∀ (l : List Ob) (i t : Nat), lk (inO i l) t = if i ≤ t then l[t - i]? else none
  | [], i, t => by simp [inO, lk]
  | v :: vs, i, t => by
    rw [inO, lk_cons, inO_spec vs (i + 1) t]
    by_cases h : i = t
    · subst h; simp
    · rw [if_neg h]
      by_cases h2 : i ≤ t
      · rw [if_pos h2, if_pos (by omega), show t - i = (t - (i + 1)) + 1 by omega, List.getElem?_cons_succ]
      · rw [if_neg h2, if_neg (by omega)]
section
variable {P : Program} {E : Ent} {G : Gh} {s : St} {a : Act} {w : World} {K : St → Prop}
def evR (tmps : Array Value) (x : ResultVar) : Sem Value := match x with
  | .tmp t => pure (tmps.getD t undef)
  | .cell c t => do let ad ← asAddr (tmps.getD c undef); loadVar t ad
theorem results_eq (fn : Func) (tmps : Array Value) : results fn tmps = (do let vs ← fn.results.mapM (evR tmps); pure (if h : vs.size = 1 then vs[0] else .tuple vs) : Sem Value) := by
  have : evR tmps = fun x => match x with
    | .tmp t => pure (tmps.getD t undef)
    | .cell c t => (do let ad ← asAddr (tmps.getD c undef); loadVar t ad : Sem Value) := by funext x; cases x <;> rfl
  rw [this]; rfl
theorem resK_spec (hR : RG E G s a w) : ∀ {rs : List ResultVar} {k : List V → Pr}, (resK P rs k).mwp s K → ∃ (vs : List V) (xs : List Value), (k vs).mwp s K ∧ xs.length = vs.length ∧
    (rs.mapM (evR a.tmps)).run P w = .ok xs w ∧ ∀ (j : Nat) (p : V), vs[j]? = some p → ∃ x, xs[j]? = some x ∧ RV G w s.O p x
  | [], k, h => ⟨[], [], h, rfl, by simp, fun j p hj => by simp at hj⟩
  | .tmp t :: r, k, h => by
    simp only [resK, Pr.mwp] at h
    obtain ⟨vs, xs, h1, h2, h3, h4⟩ := resK_spec hR h
    refine ⟨_, a.tmps.getD t undef :: xs, h1, by simp [h2], by simp [List.mapM_cons, h3, evR], fun j p hj => ?_⟩
    cases j with
    | zero => simp only [List.getElem?_cons_zero, Option.some.injEq] at hj; subst hj; exact ⟨_, rfl, hR.tm t⟩
    | succ j => exact h4 j p (by simpa using hj)
  | .cell c t :: r, k, h => by
    simp only [resK, Pr.mwp] at h
    split at h
    · rename_i id gen off e
      have hv := hR.tm c
      rw [e] at hv
      obtain ⟨cells, hO, hnm, h⟩ := boxK_spec h
      obtain ⟨p, v, h, hld, hp⟩ := ldK_ok (b := G.blk id) (off := off) (G := G) (w := w) h fun j p hj => hR.box_cells hO hnm _ p (by rw [List.getElem?_drop] at hj; exact hj)
      obtain ⟨vs, xs, h1, h2, h3, h4⟩ := resK_spec hR h
      have hptr := hv.ptr_inv hO
      refine ⟨_, v :: xs, h1, by simp [h2], by simp [List.mapM_cons, h3, hptr, asAddr, hld, evR], fun j q hj => ?_⟩
      cases j with
      | zero => simp only [List.getElem?_cons_zero, Option.some.injEq] at hj; subst hj; exact ⟨_, rfl, hp⟩
      | succ j => exact h4 j q (by simpa using hj)
    · exact h.elim
theorem shT_ok {os' : List Ob} {G : Gh} {s : St} {t v : V} {k : V → Pr} {x : Value} (hR : RG E G s a w) (hx : RV G w s.O v x) (h : (shT os' t v k).mwp s K) :
    ∃ G' s' p, RG E G' s' a w ∧ Le G w s.O G' w s'.O ∧ (k p).mwp s' K ∧ RV G' w s'.O p x := by
  have sh : (shA v k).mwp s K → ∃ G' s' p, RG E G' s' a w ∧ Le G w s.O G' w s'.O ∧ (k p).mwp s' K ∧ RV G' w s'.O p x := fun h => by
    obtain ⟨G', s', p, h1, h2, _, h4, h5⟩ := shA_ok hR hx h
    exact ⟨G', s', p, h1, h2, h4, .any _ _ h5⟩
  unfold shT at h
  split at h
  · split at h
    · refine ⟨G, s, _, hR, .refl, h, ?_⟩
      cases hx with
      | any _ _ hx => cases hx with
        | cell _ _ hx => cases hx with
          | sh _ _ hx => cases hx; exact .any _ _ (.cell _ _ (.sh _ _ (.sl0 _ _ _)))
    · exact sh h
  · split at h
    · obtain ⟨G', s', p, h1, h2, _, h4, h5⟩ := shA_ok hR hx h
      exact ⟨G', s', _, h1, h2, h4, .any _ _ (nilA_ok h5)⟩
    · exact ⟨G, s, _, hR, .refl, h, hx⟩
  · split at h
    · rename_i j _ _
      simp only [Pr.mwp] at h
      obtain ⟨g, hg, h⟩ := genK_spec h
      simp only [Pr.mwp] at h
      have hid : E.bx (200000 + j) = none := by cases e : E.bx (200000 + j) with | none => rfl | some b => have := (hR.fr.bx _ b e).1; omega
      refine ⟨_, _, _, nilG_rg hR hid hg, nilG_le (o' := .arr g false _ []) hg, h, ?_⟩
      rw [hx.nil_inv]
      exact nilOwn (by simp [nilG, upd_same]) (by rw [St.O_putO, if_pos rfl])
    · exact ⟨G, s, _, hR, .refl, h, hx⟩
  · exact ⟨G, s, _, hR, .refl, h, hx⟩
theorem shTL_ok {os' : List Ob} : ∀ {ts l : List V} {G : Gh} {s : St} {k : List V → Pr} {xs : List Value}, RG E G s a w → l.length = xs.length → (∀ (j : Nat) (p : V), l[j]? = some p → ∃ c, xs[j]? = some c ∧ RV G w s.O p c) → (shTL os' ts l k).mwp s K →
    ∃ G' s' ps, RG E G' s' a w ∧ Le G w s.O G' w s'.O ∧ (k ps).mwp s' K ∧ ps.length = xs.length ∧ ∀ (j : Nat) (p : V), ps[j]? = some p → ∃ c, xs[j]? = some c ∧ RV G' w s'.O p c
  | [], l, G, s, k, xs, hR, hl, hc, h => ⟨G, s, l, hR, .refl, by simpa [shTL] using h, hl, hc⟩
  | _ :: _, [], G, s, k, xs, hR, hl, hc, h => ⟨G, s, [], hR, .refl, by simpa [shTL] using h, hl, hc⟩
  | t :: ts, v :: vs, G, s, k, xs, hR, hl, hc, h => by
    cases xs with
    | nil => simp at hl
    | cons x xs =>
      obtain ⟨c, h1, h2⟩ := hc 0 v rfl
      simp only [List.getElem?_cons_zero, Option.some.injEq] at h1; subst h1
      simp only [shTL] at h
      obtain ⟨G1, s1, p, hR1, hle1, h, hp⟩ := shT_ok hR h2 h
      obtain ⟨G2, s2, ps, hR2, hle2, h, hl2, hps⟩ := shTL_ok (os' := os') (xs := xs) hR1 (by simpa using hl) (fun j p hj => by
        obtain ⟨c, h3, h4⟩ := hc (j + 1) p (by simpa using hj)
        exact ⟨c, by simpa using h3, h4.mono hle1⟩) h
      refine ⟨G2, s2, p :: ps, hR2, hle1.trans hle2, h, by simp [hl2], fun j q hj => ?_⟩
      cases j with
      | zero => simp only [List.getElem?_cons_zero, Option.some.injEq] at hj; subst hj; exact ⟨_, rfl, hp.mono hle2⟩
      | succ j => exact hps j q (by simpa using hj)
theorem incK_spec : ∀ {m b : Nat} {k : Ids → Pr}, (incK b m k).mwp s K → ∃ ids : Ids, ids.length = m ∧ (∀ (j id g : Nat), ids[j]? = some (id, g) → id = b + j) ∧ (k ids).mwp s K
  | 0, b, k, h => ⟨[], rfl, fun j id g hj => by simp at hj, h⟩
  | m + 1, b, k, h => by
    simp only [incK, Pr.mwp] at h
    have fin : ∀ {g : Nat}, (incK (b + 1) m fun ids => k ((b, g) :: ids)).mwp s K → ∃ ids : Ids, ids.length = m + 1 ∧ (∀ (j id g : Nat), ids[j]? = some (id, g) → id = b + j) ∧ (k ids).mwp s K := by
      intro g h
      obtain ⟨ids, h1, h2, h3⟩ := incK_spec h
      refine ⟨_, by simp [h1], fun j id g' hj => ?_, h3⟩
      cases j with
      | zero => simp only [List.getElem?_cons_zero, Option.some.injEq, Prod.mk.injEq] at hj; omega
      | succ j => have := h2 j id g' (by simpa using hj); omega
    split at h
    · exact fin h
    · exact fin h
    · exact h.elim
end
theorem distA_spec : ∀ {ids : Ids}, distA ids = true → Dist ids
  | [], _ => fun i j a b hi => by simp at hi
  | (id, g) :: ids, h => by
    simp only [distA, Bool.and_eq_true] at h
    have h4 := distA_spec h.2
    have hne : ∀ (j : Nat) (b : Nat × Nat), ids[j]? = some b → b.1 ≠ id := fun j b hb e => by
      have := List.all_eq_true.1 h.1 b (List.mem_of_getElem? hb)
      simp [e] at this
    intro i j x y hx hy e
    cases i with
    | zero =>
      cases j with
      | zero => rfl
      | succ j => simp only [List.getElem?_cons_zero, Option.some.injEq] at hx; subst hx; exact absurd e.symm (hne j y (by simpa using hy))
    | succ i =>
      cases j with
      | zero => simp only [List.getElem?_cons_zero, Option.some.injEq] at hy; subst hy; exact absurd e (hne i x (by simpa using hx))
      | succ j => rw [h4 i j x y (by simpa using hx) (by simpa using hy) e]
theorem kindB_spec : ∀ {os os' : List Ob}, kindB os os' = true → ∀ (k g : Nat) (c : List V), os[k]? = some (.box g c) → ∃ g' c', os'[k]? = some (.box g' c')
  | [], _, _, k, g, c, hk => by simp at hk
  | .box _ _ :: r, .box g' c' :: s, h, k, g, c, hk => by
    cases k with
    | zero => exact ⟨g', c', rfl⟩
    | succ k => exact kindB_spec (os := r) (os' := s) h k g c (by simpa using hk)
  | .box _ _ :: r, [], h, _, _, _, _ => by simp [kindB] at h
  | .box _ _ :: r, .arr _ _ _ _ :: s, h, _, _, _, _ => by simp [kindB] at h
  | .arr _ _ _ _ :: r, s, h, k, g, c, hk => by
    cases k with
    | zero => simp at hk
    | succ k =>
      obtain ⟨g', c', h1⟩ := kindB_spec (os := r) (os' := s.tail) h k g c (by simpa using hk)
      refine ⟨g', c', ?_⟩
      cases s with
      | nil => simp at h1
      | cons x s => simpa using h1
def notDead : V → Bool
  | .dead => false
  | _ => true
/-- what a body has to show -/
structure Body (P : Program) [Env P] (fn : Func) (lv js : List Nat) (args : List V) (os : List Ob) (res : List V) (os' : List Ob) : Prop where
  small : (Nat.ble args.length fn.ntmps && Nat.ble os.length 64) = true
  okR : res.all (okA os'.length) = true
  full : res.all notDead = true
  okO' : os'.all (okO os'.length) = true
  kind : kindB os os' = true
  len : Nat.ble os.length os'.length = true
  body : ∃ c, fn.body = some c ∧ ev P fn.ntmps lv js c ⟨inT 0 args, inO 0 os⟩ (fin P fn.results.toList os.length res os')
theorem good_of {P : Program} [Env P] (hP : P.follows .mixedOrders = true) {f : FuncId} {fn : Func} (hf : P.funcs[f]? = some fn) (hname : (fn.name == "runtime.NumGoroutine") = false) {lv js : List Nat} {args : List V} {os : List Ob} {res : List V} {os' : List Ob} (h : Body P fn lv js args os res os') : Good P f args os res os' := by
  obtain ⟨hsmall, hokR, hfull, hokO', hkind, hlen, c, hb, hev⟩ := h
  simp only [Bool.and_eq_true] at hsmall
  have hna := Nat.le_of_ble_eq_true hsmall.1
  have hno := Nat.le_of_ble_eq_true hsmall.2
  have hlen := Nat.le_of_ble_eq_true hlen
  have hkind := kindB_spec hkind
  refine ⟨⟨fn, hf, by rw [hb]; rfl, hname⟩, hlen, hokR, hokO', hkind, fun vs w G hargs hros hglo hz => ?_⟩
  let E : Ent := { G := G, w := w, nt := fn.ntmps, bx := fun k => match os[k]? with | some (.box _ _) => some (G.blk k) | _ => none }
  refine calls_of_wp hf hb ?_
  have hO : (⟨inT 0 args, inO 0 os⟩ : St).O = tbl os := by
    funext id; simp only [St.O, inO_spec, Nat.zero_le, if_true, Nat.sub_zero]; rfl
  have hR : R E ⟨inT 0 args, inO 0 os⟩ { tmps := vs ++ Array.replicate (fn.ntmps - vs.size) undef, defers := [] } w := by
    refine ⟨G, ?_, rfl, fun t => ?_, fun id o ho => ?_, ⟨rfl, rfl, rfl, Nat.le_refl _, fun _ _ _ h => h, fun _ _ _ => ⟨rfl, rfl⟩, fun id b hb => ?_⟩, fun id b hb => ?_⟩
    · simp only [Array.size_append, Array.size_replicate]; have := hargs.1; show _ = fn.ntmps; omega
    · rw [hO]
      simp only [St.V, inT_spec, Nat.zero_le, if_true, Nat.sub_zero]
      cases hp : args[t]? with
      | none => exact .dead _
      | some p =>
        obtain ⟨v, h1, h2⟩ := hargs.2 t p hp
        have hlt := (Array.getElem?_eq_some_iff.1 h1).1
        rw [Array.getD_eq_getD_getElem?, Array.getElem?_append_left hlt, h1]
        exact .any _ _ h2
    · rw [hO] at ho ⊢; exact hros id o ho
    · simp only [E] at hb
      split at hb
      · rename_i e
        have := (List.getElem?_eq_some_iff.1 e).1
        exact ⟨by omega, by cases hb; rfl⟩
      · cases hb
    · rw [hO]
      simp only [E] at hb
      split at hb
      · rename_i g c e; exact ⟨g, c, e⟩
      · cases hb
  refine wp_mono (ev_ok hP hev E _ w ⟨rfl, hglo, hz⟩ hR) ?_
  rintro e a' w' ⟨s', hq, G1, hR1⟩
  have done : (finPr P fn.results.toList os.length res os').wp s' [] [] (fun _ _ _ => True) → a'.defers = [] ∧ ∃ v, (results fn a'.tmps).run P w' = .ok v w' ∧ (∃ rv G', Ending.returned v = .returned rv ∧ resRel G' w' (tbl os') res rv ∧ (∀ (k : Nat) (o : Ob), os'[k]? = some o → RO G' w' (tbl os') k o) ∧ Keep G w G' w' os) := by
    intro h
    refine ⟨hR1.df, ?_⟩
    obtain ⟨_, _, _, _, hruns, _, _⟩ := Pr.wp_runs h
    have hm := hruns.mwp
    simp only [finPr] at hm
    obtain ⟨us', xs, hm, hxl0, hrun, hxs0⟩ := resK_spec hR1 hm
    have hdf := hR1.df
    obtain ⟨G1, s', vs', hR1, _, hm, hxl, hxs⟩ := shTL_ok hR1 hxl0.symm hxs0 hm
    have hxl := hxl.symm
    obtain ⟨inc, hi1, hi2, hm⟩ := incK_spec hm
    obtain ⟨nw, hvs, hm⟩ := hm
    dsimp only at hm
    split at hm
    case h_2 => exact hm.elim
    rename_i hd
    have hd := distA_spec hd
    obtain ⟨g1, g2, _⟩ := getsK_spec hm
    have hN : Named (inc ++ nw) os' s'.O := ⟨g1, g2⟩
    have hok := fun o ho => List.all_eq_true.1 hokO' o ho
    have hres : (results fn a'.tmps).run P w' = .ok (if h : xs.toArray.size = 1 then xs.toArray[0] else .tuple xs.toArray) w' := by
      rw [results_eq, Array.mapM_eq_mapM_toList]
      simp only [Sem.run_bind, Sem.run_map, hrun, Result.andThen_ok]
      rfl
    refine ⟨_, hres, _, downG (inc ++ nw) G1, rfl, ?_, fun k o ho => ?_, ?_⟩
    · have hc : Cells (RA (downG (inc ++ nw) G1) w' (tbl os')) res xs.toArray := by
        refine ⟨by rw [List.size_toArray, hxl, hvs]; simp, fun j p hj => ?_⟩
        obtain ⟨x, h1, h2⟩ := hxs j (renA (inc ++ nw) p) (by rw [hvs, List.getElem?_map, hj]; rfl)
        refine ⟨x, by simpa using h1, ?_⟩
        have hokp := List.all_eq_true.1 hokR p (List.mem_of_getElem? hj)
        have : RA G1 w' s'.O (renA (inc ++ nw) p) x := by
          have hnd := List.all_eq_true.1 hfull p (List.mem_of_getElem? hj)
          have hids : ∀ k, k < os'.length → ∃ id g, (inc ++ nw)[k]? = some (id, g) := fun k hk => by
            have hk' : k < (inc ++ nw).length := by rw [g1]; exact hk
            exact ⟨_, _, List.getElem?_eq_getElem hk'⟩
          have hnt : renA (inc ++ nw) p ≠ .dead ∧ (∀ l, renA (inc ++ nw) p ≠ .tup l) ∧ (∀ a b c d, renA (inc ++ nw) p ≠ .elp a b c d) ∧ (∀ l, renA (inc ++ nw) p ≠ .rp l) := by
            cases p with
            | ptr k g off =>
              simp only [okA, okC, okB, Bool.and_eq_true] at hokp
              obtain ⟨id, g', e⟩ := hids k (by simpa using hokp.1)
              simp [renA, renC, renB, e]
            | own k g =>
              simp only [okA, okC, okB, Bool.and_eq_true] at hokp
              obtain ⟨id, g', e⟩ := hids k (by simpa using hokp.1)
              simp [renA, renC, renB, e]
            | mp k g =>
              simp only [okA, okC, okB, Bool.and_eq_true] at hokp
              obtain ⟨id, g', e⟩ := hids k (by simpa using hokp.1)
              simp [renA, renC, renB, e]
            | _ => first | (simp [notDead] at hnd; done) | (simp [okA, okC, okB] at hokp; done) | simp [renA, renC, renB]
          revert h2 hnt
          generalize renA (inc ++ nw) p = q
          intro h2 hnt
          cases h2 with
          | dead => exact absurd rfl hnt.1
          | any _ _ h => exact h
          | tup l => exact absurd rfl (hnt.2.1 l)
          | elp => exact absurd rfl (hnt.2.2.1 _ _ _ _)
          | rp l => exact absurd rfl (hnt.2.2.2 l)
        exact downA hN hok this hokp
      unfold resRel
      split
      · have hs1 : xs.toArray.size = 1 := hc.1
        rw [dif_pos hs1]
        obtain ⟨c, h1, h2⟩ := hc.2 0 _ rfl
        rw [Array.getElem?_eq_getElem (by omega)] at h1; cases h1; exact h2
      · rename_i hne
        have hs1 : ¬ xs.toArray.size = 1 := by
          intro h
          rw [hc.1] at h
          obtain ⟨p, hp⟩ := List.length_eq_one_iff.1 h
          exact hne p hp
        rw [dif_neg hs1]
        exact ⟨_, rfl, hc⟩
    · have hk := (List.getElem?_eq_some_iff.1 ho).1
      obtain ⟨id, g, o2, e1, e2, e3, _⟩ := hN.at_ hok hk
      rw [ho] at e2; cases e2
      exact downO hN hd hok ho e1 (hR1.ob id _ e3)
    · refine ⟨hR1.fr.os, hR1.fr.tape, hR1.fr.output, hR1.fr.size, hR1.fr.st, fun k hk hn => ?_, fun k g c hk => ?_⟩
      · obtain ⟨h1, h2⟩ := hR1.fr.im k hk hn
        refine ⟨?_, h2⟩
        simp only [downG]
        rw [h1]
        show (⟨(G.own k).ow.bind _, (G.own k).lim⟩ : Own) = G.own k
        rw [hn]; cases hg : G.own k; simp_all
      · have hbx : E.bx k = some (G.blk k) := by simp only [E, hk]
        have h1 := (hR1.fr.bx k _ hbx).2
        have hlt := (List.getElem?_eq_some_iff.1 hk).1
        have hget : ((inc ++ nw).getD k (0, 0)).1 = k := by
          rw [List.getD_eq_getElem?_getD, List.getElem?_append_left (by rw [hi1]; exact hlt), List.getElem?_eq_getElem (by rw [hi1]; exact hlt)]
          have := hi2 k _ _ (List.getElem?_eq_getElem (by rw [hi1]; exact hlt))
          simpa using this
        simp only [downG, hget]; exact h1
  cases e with
  | normal => exact done hq
  | ret => exact done hq
  | _ => exact hq.elim
end Go.PV
namespace Go.PV
open Go Go.RowKit
section
variable {P : Program} [Env P]
theorem call0 {f : FuncId} {avs args res : List V} {os' : List Ob} {K : Rec → Prop} (h : Good P f args [] res os') (k : K ⟨[], args, [], res, os'⟩) (e : args.map (renA []) = nilAL args avs := by rfl) (o : args.all (okA 0) = true := by rfl) :
    ∃ r : Rec, (Good P f r.args r.os r.res r.os' ∧ r.args.map (renA r.ids) = nilAL r.args avs ∧ r.args.all (okA r.os.length) = true ∧ r.os.all (okO r.os.length) = true) ∧ K r := ⟨_, ⟨h, e, o, rfl⟩, k⟩
theorem callN {f : FuncId} {avs : List V} {K : Rec → Prop} (ids : Ids) {args res : List V} {os os' : List Ob} (h : Good P f args os res os') (k : K ⟨ids, args, os, res, os'⟩) (e : args.map (renA ids) = nilAL args avs := by rfl) (o : args.all (okA os.length) = true := by rfl) (o2 : os.all (okO os.length) = true := by rfl) :
    ∃ r : Rec, (Good P f r.args r.os r.res r.os' ∧ r.args.map (renA r.ids) = nilAL r.args avs ∧ r.args.all (okA r.os.length) = true ∧ r.os.all (okO r.os.length) = true) ∧ K r := ⟨_, ⟨h, e, o, o2⟩, k⟩
theorem fin0 {vs res : List V} {K : Ids → Prop} (e : vs = res) (k : K []) (o : res.map (renA []) = res := by rfl) : ∃ nw, vs = res.map (renA ([] ++ nw)) ∧ K nw := ⟨[], by rw [e]; exact o.symm, k⟩
theorem wr {n : Int} (h1 : -9223372036854775808 ≤ n) (h2 : n ≤ 9223372036854775807) : IntKind.i64.wrap n = n := by
  have e : IntKind.i64.wrap n = (let m := n % 18446744073709551616; if m ≥ 9223372036854775808 then m - 18446744073709551616 else m) := by simp [IntKind.wrap, IntKind.bits, IntKind.signed]
  rw [e]; dsimp only; split <;> omega
theorem wru {n : Int} : IntKind.u64.wrap n = n % 18446744073709551616 := by simp [IntKind.wrap, IntKind.bits, IntKind.signed]
/-- data alone -/
def resSh (res : List V) (rv : Value) : Prop := match res with
  | [p] => Sh (fun _ _ _ => False) p rv
  | ps => ∃ vs, rv = .tuple vs ∧ Cells (Sh (fun _ _ _ => False)) ps vs
theorem resSh.rel {G : Gh} {w : World} {O : Tb} {res : List V} {rv : Value} (h : resSh res rv) : resRel G w O res rv := by
  have up : ∀ p v, Sh (fun _ _ _ => False) p v → RA G w O p v := fun p v hp => .cell _ _ (.sh _ _ (hp.mono fun _ _ _ h => h.elim))
  unfold resSh at h
  unfold resRel
  split at h
  · exact up _ _ h
  · rename_i hn
    obtain ⟨vs, h1, h2⟩ := h
    first
    | exact ⟨vs, h1, h2.mono up⟩
    | (split
       · exact absurd rfl (hn _)
       · exact ⟨vs, h1, h2.mono up⟩)
theorem good_of_calls {f : FuncId} {fn : Func} (hf : P.funcs[f]? = some fn) (hb : fn.body.isSome = true) (hname : (fn.name == "runtime.NumGoroutine") = false) {args res : List V} (hok : res.all (okA 0) = true)
    (h : ∀ vs w G, Cells (RA G w (tbl [])) args vs → Env.Z P w → Calls P f vs w fun e w' => ∃ rv, e = .returned rv ∧ resSh res rv ∧ Below w.heap.size w w') : Good P f args [] res [] where
  call := ⟨fn, hf, hb, hname⟩
  len := Nat.le_refl _
  okR := hok
  okO' := rfl
  kind := fun k g c hk => by simp at hk
  run := fun vs w G hc ho hn hz => (h vs w G hc hz).mono fun e w' hh => by
    obtain ⟨rv, h1, h2, h3⟩ := hh
    refine ⟨rv, G, h1, h2.rel, fun k o hk => by simp at hk, ?_⟩
    exact { sys := h3.os, tape := h3.tape, output := h3.output, size := h3.size
            st := fun b o c hs => ⟨hs.1, by
              have hlt : b < w.heap.size := World.block_lt_of_cell? w ⟨b, o, none⟩ hs.2
              have := hs.2
              unfold World.cell? at this ⊢
              rw [h3.block b hlt]; exact this⟩
            im := fun k hk _ => ⟨rfl, h3.block k hk⟩
            bx := fun k g c hk => by simp at hk }
theorem RA.str_eq {G : Gh} {w : World} {O : Tb} {l : List UInt8} {v : Value} (h : RA G w O (.str l) v) : v = .string ⟨l.toArray⟩ := by
  cases h with
  | cell _ _ h => cases h with
    | sh _ _ h => cases h; rfl
theorem RA.int_eq {G : Gh} {w : World} {O : Tb} {k : IntKind} {n : Int} {v : Value} (h : RA G w O (.int k n) v) : v = .int k n := by
  cases h with
  | cell _ _ h => cases h with
    | sh _ _ h => cases h; rfl
theorem RA.bool_eq {G : Gh} {w : World} {O : Tb} {b : Bool} {v : Value} (h : RA G w O (.bool b) v) : v = .bool b := by
  cases h with
  | cell _ _ h => cases h with
    | sh _ _ h => cases h; rfl
theorem cells1 {R : V → Value → Prop} {p : V} {vs : Array Value} (h : Cells R [p] vs) : ∃ v, vs = #[v] ∧ R p v := by
  obtain ⟨v, h1, h2⟩ := h.2 0 p rfl
  have hs := h.1
  refine ⟨v, ?_, h2⟩
  apply Array.ext
  · simpa using hs
  · intro i hi _
    have : i = 0 := by simp at hs; omega
    subst this
    simpa [Array.getElem?_eq_getElem hi] using h1
theorem cells2 {R : V → Value → Prop} {p q : V} {vs : Array Value} (h : Cells R [p, q] vs) : ∃ v u, vs = #[v, u] ∧ R p v ∧ R q u := by
  obtain ⟨v, h1, h2⟩ := h.2 0 p rfl
  obtain ⟨u, h3, h4⟩ := h.2 1 q rfl
  have hs := h.1
  refine ⟨v, u, ?_, h2, h4⟩
  apply Array.ext
  · simpa using hs
  · intro i hi _
    have : i = 0 ∨ i = 1 := by simp at hs; omega
    rcases this with rfl | rfl
    · simpa [Array.getElem?_eq_getElem hi] using h1
    · simpa [Array.getElem?_eq_getElem hi] using h3
theorem Cells.two {R : V → Value → Prop} {p q : V} {v u : Value} (h : R p v) (k : R q u) : Cells R [p, q] #[v, u] := ⟨rfl, fun j x hj => by
  match j, hj with
  | 0, hj => simp at hj; subst hj; exact ⟨v, rfl, h⟩
  | 1, hj => simp at hj; subst hj; exact ⟨u, rfl, k⟩⟩
/-- a shared slice of strings -/
theorem RA.strs_eq {G : Gh} {w : World} {O : Tb} {l : List (List UInt8)} {v : Value} (h : RA G w O (.sl 1 (l.map fun x => [.str x])) v) :
    (l = [] ∧ ∃ a c, v = .slice a 0 c) ∨ ∃ b off cap, v = .slice (some ⟨b, off, none⟩) l.length cap ∧ l.length ≤ cap ∧ ∀ (j : Nat) (x : List UInt8), l[j]? = some x → w.cell? ⟨b, off + j, none⟩ = some (.string ⟨x.toArray⟩) := by
  cases h with
  | cell _ _ h => cases h with
    | sh _ _ h =>
      generalize hm : (l.map fun x => [V.str x]) = xs at h
      cases h with
      | sl0 n a c => left; exact ⟨by simpa using hm, a, c, rfl⟩
      | sl n xs b off cap c h0 hl hc hs hh =>
        subst hm
        right
        refine ⟨b, off, cap, by simp, by simpa using hc, fun j x hj => ?_⟩
        have hj' : (l.map fun x => [V.str x])[j]? = some [.str x] := by simp [hj]
        have h1 := (hs j [.str x] 0 (.str x) hj' rfl).2
        have h2 := hh j [.str x] 0 (.str x) hj' rfl
        generalize c j 0 = cv at h1 h2
        cases h2
        simpa using h1
end
end Go.PV
namespace Go.PV
open Go
/-! what the small functions compute, over lists of bytes -/
abbrev Bs := List UInt8
def inB (a b : Nat) (c : UInt8) : Bool := decide (a ≤ c.toNat ∧ c.toNat ≤ b)
def smallB (c : UInt8) : Bool := inB 97 122 c
def largeB (c : UInt8) : Bool := inB 65 90 c
def digitB (c : UInt8) : Bool := inB 48 57 c
def letterB (c : UInt8) : Bool := smallB c || largeB c || digitB c || decide (c.toNat = 95)
def blankB (c : UInt8) : Bool := decide (c.toNat = 32 ∨ c.toNat = 9 ∨ c.toNat = 13 ∨ c.toNat = 10)
def plainB (c : UInt8) : Bool := inB 32 126 c
def escB (c : UInt8) : Bool := decide (c.toNat = 34 ∨ c.toNat = 92)
structure Val where
  k : Int
  n : Int
  s : Bs
abbrev Val.c (v : Val) : List V := [.int .i64 v.k, .int .i64 v.n, .str v.s]
def symbolS (s : Bs) : Bool := decide (1 ≤ s.length) && decide (s.length ≤ 24) && (match s with | c :: _ => smallB c | [] => false) && s.all letterB
def plainS (s : Bs) : Bool := s.all plainB && decide (s.length ≤ 60)
def inR (n : Int) : Bool := decide (-4611686018427387904 ≤ n ∧ n ≤ 4611686018427387904)
def checkS (v : Val) : Bool :=
  if v.k = 1 then inR v.n && decide (v.s = []) else if v.k = 2 then decide (v.n = 0) && symbolS v.s else if v.k = 3 then decide (v.n = 0) && plainS v.s else false
def quoteB (c : UInt8) : Bs := if escB c then [92, c] else [c]
def quotedS (s : Bs) : Bs := 34 :: s.flatMap quoteB ++ [34]
def textV (v : Val) : Bs := if checkS v then (if v.k = 1 then Lib.itoa v.n else if v.k = 2 then v.s else quotedS v.s) else []
/-- the middle, without the signs ahead of a sign -/
def bareM : Bs → Bs
  | [] => []
  | [c] => [c]
  | c :: d :: r => if c.toNat = 92 then d :: bareM r else c :: bareM (d :: r)
def bareS (s : Bs) : Bs := bareM ((s.drop 1).take (s.length - 2))
def atoiN (s : List UInt8) : Int := match Lib.atoiAll s with
  | .ok v => v
  | .«syntax» => 0
  | .range => Lib.atoiSat s
def atoiOk (s : List UInt8) : Bool := match Lib.atoiAll s with
  | .ok _ => true
  | _ => false
def errV (b : Bool) : V := if b then .nili else .ifc
/-- what a text may be, before it is looked at -/
def guessS (s : Bs) : Option Val := match s with
  | [] => none
  | c :: _ => if c.toNat = 34 then some ⟨3, 0, bareS s⟩ else if c.toNat = 45 ∨ digitB c then (if atoiOk s then some ⟨1, atoiN s, []⟩ else none) else some ⟨2, 0, s⟩
def parseS (s : Bs) : Option Val := match guessS s with
  | some v => if checkS v && decide (textV v = s) then some v else none
  | none => none
def zeroV : Val := ⟨0, 0, []⟩
theorem inB_iff {a b : Nat} {c : UInt8} : inB a b c = true ↔ a ≤ c.toNat ∧ c.toNat ≤ b := by simp [inB]
theorem inB_no {a b : Nat} {c : UInt8} : inB a b c = false ↔ ¬ (a ≤ c.toNat ∧ c.toNat ≤ b) := by simp only [inB, decide_eq_false_iff_not]
theorem drop_cons {s : Bs} {k : Nat} (h : k < s.length) : s.drop k = s[k] :: s.drop (k + 1) := List.drop_eq_getElem_cons h
theorem all_drop {p : UInt8 → Bool} {s : Bs} {k : Nat} (h : k < s.length) : (s.drop k).all p = (p s[k] && (s.drop (k + 1)).all p) := by rw [drop_cons h]; rfl
theorem takeWhile_drop {p : UInt8 → Bool} {s : Bs} {k : Nat} (h : k < s.length) : (s.drop k).takeWhile p = if p s[k] then s[k] :: (s.drop (k + 1)).takeWhile p else [] := by
  rw [drop_cons h, List.takeWhile_cons]
theorem idx {s : Bs} {k : Nat} {x : Int} (h : k < s.length) (e : x = k) : 0 ≤ x ∧ s[x.toNat]? = some s[k] := by
  subst e; exact ⟨by omega, by simp [h]⟩
theorem idxM {α β : Type} {f : α → β} {l : List α} {k : Nat} {x : Int} (h : k < l.length) (e : x = k) : 0 ≤ x ∧ (l.map f)[x.toNat]? = some (f l[k]) := by
  subst e; exact ⟨by omega, by simp [h]⟩
theorem map_snoc {α β : Type} (f : α → β) (l : List α) {k : Nat} (h : k < l.length) : (l.take (k + 1)).map f = (l.take k).map f ++ [f l[k]] := by
  rw [← List.take_append_getElem h, List.map_append]; rfl
theorem modk {m : Int} (h0 : 0 < m) (h1 : m ≤ 1000000) (n : Int) : ∃ k : Nat, (k : Int) < m ∧ IntKind.i64.wrap ((IntKind.u64.wrap n).tmod m) = k := by
  have h2 : 0 ≤ IntKind.u64.wrap n := by rw [wru]; omega
  have h3 := Int.tmod_nonneg m h2
  have h4 := Int.tmod_lt_of_pos (IntKind.u64.wrap n) h0
  exact ⟨((IntKind.u64.wrap n).tmod m).toNat, by omega, by rw [wr (by omega) (by omega)]; omega⟩
/-- bytes as cells -/
def bytesX (l : Bs) : List (List V) := l.map fun c => [.int .u8 c.toNat]
theorem bytesX_len (l : Bs) : (bytesX l).length = l.length := by simp [bytesX]
theorem bytesX_app (l m : Bs) : bytesX l ++ bytesX m = bytesX (l ++ m) := by simp [bytesX]
theorem bytesX_snoc (l : Bs) (c : UInt8) : bytesX l ++ [[.int .u8 c.toNat]] = bytesX (l ++ [c]) := by simp [bytesX]
theorem bytesX_mem (l : Bs) (y : List V) (h : y ∈ bytesX l) : ∃ n : Int, y = [.int .u8 n] := by
  obtain ⟨c, _, rfl⟩ := List.mem_map.1 h; exact ⟨_, rfl⟩
theorem bytesX_back (l : Bs) : (bytesX l).map (fun y => UInt8.ofNat (numOf y).toNat) = l := by
  unfold bytesX
  rw [List.map_map]
  exact (List.map_congr_left fun c _ => by simp [numOf]).trans (List.map_id' l)
theorem flatMap_snoc (s : Bs) {k : Nat} (h : k < s.length) : (s.take (k + 1)).flatMap quoteB = (s.take k).flatMap quoteB ++ quoteB s[k] := by
  rw [← List.take_append_getElem h, List.flatMap_append]; simp
theorem flatMap_len (s : Bs) : (s.flatMap quoteB).length ≤ 2 * s.length := by
  induction s with
  | nil => simp
  | cons c s ih =>
    rw [List.flatMap_cons, List.length_append, List.length_cons]
    have : (quoteB c).length ≤ 2 := by unfold quoteB; split <;> simp
    omega
theorem head_at {s : Bs} (h : 0 < s.length) : ∃ c r, s = c :: r ∧ s[0] = c := by
  cases s with
  | nil => simp at h
  | cons c r => exact ⟨c, r, rfl, rfl⟩
end Go.PV
namespace Go.PV
open Go
/-! signs of a text -/
def textGo : Nat → Bs → Nat
  | _, [] => 0
  | i, c :: r =>
    if c.toNat = 34 then i + 1
    else match r with
      | d :: r' => if c.toNat = 92 ∧ escB d then textGo (i + 2) r' else if c.toNat = 92 ∨ ¬ plainB c then 0 else textGo (i + 1) (d :: r')
      | [] => 0
def textS (s : Bs) : Nat := textGo 1 (s.drop 1)
def hasP (s p : Bs) : Bool := decide (p.length ≤ s.length) && decide (s.take p.length = p)
def trim0 (s : Bs) : Bs := s.dropWhile fun c => decide (c.toNat = 48)
def numRest (s : Bs) : Bs := if hasP s [45] then s.drop 1 else s
def numberS (s : Bs) : Option Val :=
  if numRest s = [] ∨ ¬ (numRest s).all digitB then none
  else if trim0 (numRest s) = [] then some ⟨1, 0, []⟩
  else parseS (if hasP s [45] then 45 :: trim0 (numRest s) else trim0 (numRest s))
def signs1 : Bs := [40, 41, 91, 93, 44, 46, 58, 47, 43, 42, 45, 61, 60]
def signS (s : Bs) : Nat :=
  if hasP s [33, 61] ∨ hasP s [60, 61] ∨ hasP s [45, 62] ∨ hasP s [61, 62] then 2
  else match s with
    | c :: _ => if c ∈ signs1 then 1 else 0
    | [] => 0
def headB (p : UInt8 → Bool) : Bs → Bool
  | c :: _ => p c
  | [] => false
/-- the sign ahead: its kind, its length, is it right? -/
def nextS (s : Bs) : Int × Nat × Bool := match s with
  | [] => (5, 0, false)
  | c :: r =>
    if smallB c ∨ largeB c then (if largeB c then 2 else 1, (s.takeWhile letterB).length, decide ((s.takeWhile letterB).length ≤ 24))
    else if digitB c ∨ (c.toNat = 45 ∧ headB digitB r) then
      (3, 1 + (r.takeWhile digitB).length, (numberS (s.take (1 + (r.takeWhile digitB).length))).isSome)
    else if c.toNat = 34 then (4, textS s, decide (0 < textS s) && (parseS (s.take (textS s))).isSome)
    else (5, signS s, decide (0 < signS s))
/-- how many blanks are ahead; within a comment, or not -/
def blanksN : Bool → Bs → Nat
  | _, [] => 0
  | true, c :: r => if c.toNat = 10 then 1 + blanksN false r else 1 + blanksN true r
  | false, c :: r => if c.toNat = 37 then 1 + blanksN true r else if blankB c then 1 + blanksN false r else 0
/-- the place behind a text -/
def posS (s : Bs) : Int × Int := s.foldl (fun p c => if c.toNat = 10 then (p.1 + 1, 1) else (p.1, p.2 + 1)) (1, 1)
structure Tok where
  k : Int
  t : Bs
  p : Int × Int
abbrev Tok.c (t : Tok) : List V := [.int .i64 t.k, .str t.t, .int .i64 t.p.1, .int .i64 t.p.2]
def toksGo (s : Bs) : Nat → Nat → List Tok × Option (Int × Int)
  | 0, _ => ([], none)
  | f + 1, i =>
    if i < s.length then
      let x := nextS (s.drop i)
      if x.2.2 then
        let r := toksGo s f (i + x.2.1 + blanksN false (s.drop (i + x.2.1)))
        (⟨x.1, (s.drop i).take x.2.1, posS (s.take i)⟩ :: r.1, r.2)
      else ([], some (posS (s.take i)))
    else ([], none)
def toksS (s : Bs) : List Tok × Option (Int × Int) := toksGo s s.length (blanksN false s)
theorem posS_snoc (s : Bs) {k : Nat} (h : k < s.length) : posS (s.take (k + 1)) = if s[k].toNat = 10 then ((posS (s.take k)).1 + 1, 1) else ((posS (s.take k)).1, (posS (s.take k)).2 + 1) := by
  unfold posS
  rw [← List.take_append_getElem h, List.foldl_append]; rfl
theorem posS_le (s : Bs) : ∀ k, k ≤ s.length → 1 ≤ (posS (s.take k)).1 ∧ (posS (s.take k)).1 ≤ 1 + k ∧ 1 ≤ (posS (s.take k)).2 ∧ (posS (s.take k)).2 ≤ 1 + k
  | 0, _ => by simp [posS]
  | k + 1, h => by
    have ih := posS_le s k (by omega)
    rw [posS_snoc s (by omega)]
    split
    · dsimp only; omega
    · dsimp only; omega
end Go.PV
