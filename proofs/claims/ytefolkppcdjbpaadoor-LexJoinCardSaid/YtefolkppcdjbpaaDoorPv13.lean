/- Part of the proof of LexJoin. -/
import Derived.Test.YtefolkppcdjbpaaDoorPv12
namespace Go.PV
open Go Go.RowKit
def resRel (G : Gh) (w : World) (O : Tb) (res : List V) (rv : Value) : Prop := match res with
  | [p] => RA G w O p rv
  | ps => ∃ vs, rv = .tuple vs ∧ Cells (RA G w O) ps vs
/-- what is kept -/
structure Keep (G : Gh) (w : World) (G' : Gh) (w' : World) (os : List Ob) : Prop where
  sys : w'.os = w.os
  tape : w'.tape = w.tape
  output : w'.output = w.output
  size : w.heap.size ≤ w'.heap.size
  st : ∀ b o c, stab G w b o c → stab G' w' b o c
  im : ∀ k, k < w.heap.size → (G.own k).ow = none → G'.own k = G.own k ∧ w'.heap[k]? = w.heap[k]?
  bx : ∀ (k : Nat) (g : Nat) (c : List V), os[k]? = some (.box g c) → G'.blk k = G.blk k
def CallOk (P : Program) (f : FuncId) : Prop := ∃ fn, P.funcs[f]? = some fn ∧ fn.body.isSome = true ∧ (fn.name == "runtime.NumGoroutine") = false
/-- a function's contract at arguments: its results; objects that are handed in (boxes, and what they lead to), as they are behind -/
structure Good (P : Program) [Env P] (f : FuncId) (args : List V) (os : List Ob) (res : List V) (os' : List Ob) : Prop where
  call : CallOk P f
  len : os.length ≤ os'.length
  okR : res.all (okA os'.length) = true
  okO' : os'.all (okO os'.length) = true
  kind : ∀ (k g : Nat) (c : List V), os[k]? = some (.box g c) → ∃ g' c', os'[k]? = some (.box g' c')
  run : ∀ (vs : Array Value) (w : World) (G : Gh), Cells (RA G w (tbl os)) args vs → (∀ (k : Nat) (o : Ob), os[k]? = some o → RO G w (tbl os) k o) → (∀ k, k < Env.ng P → k < w.heap.size ∧ (G.own k).ow = none) → Env.Z P w →
    Calls P f vs w fun e w' => ∃ rv G', e = .returned rv ∧ resRel G' w' (tbl os') res rv ∧ (∀ (k : Nat) (o : Ob), os'[k]? = some o → RO G' w' (tbl os') k o) ∧ Keep G w G' w' os
/-- an argument, as it may be handed -/
def shC (v : V) (k : V → Pr) : Pr := match v with
  | .own id gen => shK (.own id gen) k
  | .dead => .fail
  | .agg _ => .fail
  | .tup _ => .fail
  | .elp _ _ _ _ => .fail
  | .rp _ => .fail
  | v => k v
def shCL : List V → (List V → Pr) → Pr
  | [], k => k []
  | v :: vs, k => shC v fun p => shCL vs fun ps => k (p :: ps)
def shA (v : V) (k : V → Pr) : Pr := match v with
  | .agg l => shCL l fun l' => k (.agg l')
  | v => shC v k
def shAL : List V → (List V → Pr) → Pr
  | [], k => k []
  | v :: vs, k => shA v fun p => shAL vs fun ps => k (p :: ps)
section
variable {P : Program} {nt : Nat} {o : Oper} {E : Ent} {a : Act} {w : World} {K : St → Prop}
theorem shC_ok {G : Gh} {s : St} {v : V} {k : V → Pr} {x : Value} (hR : RG E G s a w) (hx : RV G w s.O v x) (h : (shC v k).mwp s K) :
    ∃ G' s' p, RG E G' s' a w ∧ Le G w s.O G' w s'.O ∧ (∀ t, s'.V t = s.V t) ∧ (k p).mwp s' K ∧ RC G' w s'.O p x := by
  have cell : ∀ {p : V}, RV G w s.O p x → p ≠ .dead → (∀ l, p ≠ .agg l) → (∀ l, p ≠ .tup l) → (∀ a b c d, p ≠ .elp a b c d) → (∀ l, p ≠ .rp l) → RC G w s.O p x := by
    intro p hp h1 h2 h3 h4 h5
    cases hp with
    | dead => exact absurd rfl h1
    | any _ _ hp => exact hp.not_agg h2
    | tup l => exact absurd rfl (h3 l)
    | elp => exact absurd rfl (h4 _ _ _ _)
    | rp l => exact absurd rfl (h5 l)
  unfold shC at h
  split at h
  · obtain ⟨G', s', p, h1, h2, h3, h4, h5⟩ := shK_ok hR (cell hx (by simp) (by simp) (by simp) (by simp) (by simp)) h
    exact ⟨G', s', p, h1, h2, h3, h4, .sh _ _ h5⟩
  · exact h.elim
  · exact h.elim
  · exact h.elim
  · exact h.elim
  · exact h.elim
  · rename_i h0 h1 h2 h3 h4 h5
    exact ⟨G, s, v, hR, .refl, fun _ => rfl, h, cell hx (fun e => h1 e) (fun l e => h2 l e) (fun l e => h3 l e) (fun a b c d e => h4 a b c d e) (fun l e => h5 l e)⟩
theorem shCL_ok : ∀ {l : List V} {G : Gh} {s : St} {k : List V → Pr} {xs : List Value}, RG E G s a w → l.length = xs.length → (∀ (j : Nat) (p : V), l[j]? = some p → ∃ c, xs[j]? = some c ∧ RC G w s.O p c) → (shCL l k).mwp s K →
    ∃ G' s' ps, RG E G' s' a w ∧ Le G w s.O G' w s'.O ∧ (∀ t, s'.V t = s.V t) ∧ (k ps).mwp s' K ∧ ps.length = xs.length ∧ ∀ (j : Nat) (p : V), ps[j]? = some p → ∃ c, xs[j]? = some c ∧ RC G' w s'.O p c
  | [], G, s, k, xs, hR, hl, hc, h => ⟨G, s, [], hR, .refl, fun _ => rfl, h, hl, fun j p hj => by simp at hj⟩
  | v :: vs, G, s, k, xs, hR, hl, hc, h => by
    cases xs with
    | nil => simp at hl
    | cons x xs =>
      obtain ⟨c, h1, h2⟩ := hc 0 v rfl
      simp only [List.getElem?_cons_zero, Option.some.injEq] at h1; subst h1
      obtain ⟨G1, s1, p, hR1, hle1, hV1, h, hp⟩ := shC_ok hR (.any _ _ (.cell _ _ h2)) h
      obtain ⟨G2, s2, ps, hR2, hle2, hV2, h, hl2, hps⟩ := shCL_ok (xs := xs) hR1 (by simpa using hl) (fun j p hj => by
        obtain ⟨c, h3, h4⟩ := hc (j + 1) p (by simpa using hj)
        exact ⟨c, by simpa using h3, h4.mono hle1⟩) h
      refine ⟨G2, s2, p :: ps, hR2, hle1.trans hle2, fun t => (hV2 t).trans (hV1 t), h, by simp [hl2], fun j q hj => ?_⟩
      cases j with
      | zero => simp only [List.getElem?_cons_zero, Option.some.injEq] at hj; subst hj; exact ⟨x, rfl, hp.mono hle2⟩
      | succ j => obtain ⟨c, h3, h4⟩ := hps j q (by simpa using hj); exact ⟨c, by simpa using h3, h4⟩
theorem shA_ok {G : Gh} {s : St} {v : V} {k : V → Pr} {x : Value} (hR : RG E G s a w) (hx : RV G w s.O v x) (h : (shA v k).mwp s K) :
    ∃ G' s' p, RG E G' s' a w ∧ Le G w s.O G' w s'.O ∧ (∀ t, s'.V t = s.V t) ∧ (k p).mwp s' K ∧ RA G' w s'.O p x := by
  unfold shA at h
  split at h
  · rename_i l
    obtain ⟨cs, h1, h2⟩ := hx.agg_inv
    obtain ⟨G', s', ps, hR', hle, hV, h, hlen, hps⟩ := shCL_ok (xs := cs.toList) hR (by simpa using h2.1.symm) (fun j p hj => by simpa using h2.2 j p hj) h
    refine ⟨G', s', _, hR', hle, hV, h, ?_⟩
    rw [h1]
    exact .agg _ _ ⟨by simpa using hlen.symm, fun j p hj => by simpa using hps j p hj⟩
  · obtain ⟨G', s', p, h1, h2, h3, h4, h5⟩ := shC_ok hR hx h
    exact ⟨G', s', p, h1, h2, h3, h4, .cell _ _ h5⟩
theorem shAL_ok : ∀ {l : List V} {G : Gh} {s : St} {k : List V → Pr} {xs : List Value}, RG E G s a w → l.length = xs.length → (∀ (j : Nat) (p : V), l[j]? = some p → ∃ c, xs[j]? = some c ∧ RV G w s.O p c) → (shAL l k).mwp s K →
    ∃ G' s' ps, RG E G' s' a w ∧ Le G w s.O G' w s'.O ∧ (∀ t, s'.V t = s.V t) ∧ (k ps).mwp s' K ∧ ps.length = xs.length ∧ ∀ (j : Nat) (p : V), ps[j]? = some p → ∃ c, xs[j]? = some c ∧ RA G' w s'.O p c
  | [], G, s, k, xs, hR, hl, hc, h => ⟨G, s, [], hR, .refl, fun _ => rfl, h, hl, fun j p hj => by simp at hj⟩
  | v :: vs, G, s, k, xs, hR, hl, hc, h => by
    cases xs with
    | nil => simp at hl
    | cons x xs =>
      obtain ⟨c, h1, h2⟩ := hc 0 v rfl
      simp only [List.getElem?_cons_zero, Option.some.injEq] at h1; subst h1
      obtain ⟨G1, s1, p, hR1, hle1, hV1, h, hp⟩ := shA_ok hR h2 h
      obtain ⟨G2, s2, ps, hR2, hle2, hV2, h, hl2, hps⟩ := shAL_ok (xs := xs) hR1 (by simpa using hl) (fun j p hj => by
        obtain ⟨c, h3, h4⟩ := hc (j + 1) p (by simpa using hj)
        exact ⟨c, by simpa using h3, h4.mono hle1⟩) h
      refine ⟨G2, s2, p :: ps, hR2, hle1.trans hle2, fun t => (hV2 t).trans (hV1 t), h, by simp [hl2], fun j q hj => ?_⟩
      cases j with
      | zero => simp only [List.getElem?_cons_zero, Option.some.injEq] at hj; subst hj; exact ⟨x, rfl, hp.mono hle2⟩
      | succ j => obtain ⟨c, h3, h4⟩ := hps j q (by simpa using hj); exact ⟨c, by simpa using h3, h4⟩
def mapK (f : V → V) : List V → (List V → Pr) → Pr
  | [], k => k []
  | v :: vs, k => forceV (f v) fun p => mapK f vs fun ps => k (p :: ps)
theorem mapK_eq (f : V → V) (l : List V) (k : List V → Pr) : mapK f l k = k (l.map f) := by
  induction l generalizing k with
  | nil => rfl
  | cons x xs ih => simp only [mapK, forceV_eq, ih, List.map_cons]
def renAK (ids : Ids) (v : V) (k : V → Pr) : Pr := match v with
  | .agg l => mapK (renC ids) l fun l' => k (.agg l')
  | v => forceV (renC ids v) k
theorem renAK_eq (ids : Ids) (v : V) (k : V → Pr) : renAK ids v k = k (renA ids v) := by
  cases v <;> simp only [renAK, renA, mapK_eq, forceV_eq]
def renALK (ids : Ids) : List V → (List V → Pr) → Pr
  | [], k => k []
  | v :: vs, k => renAK ids v fun p => renALK ids vs fun ps => k (p :: ps)
theorem renALK_eq (ids : Ids) (l : List V) (k : List V → Pr) : renALK ids l k = k (l.map (renA ids)) := by
  induction l generalizing k with
  | nil => rfl
  | cons x xs ih => simp only [renALK, renAK_eq, ih, List.map_cons]
def renOK (ids : Ids) (g : Nat) (o : Ob) (k : Ob → Pr) : Pr := match o with
  | .box _ cells => mapK (renC ids) cells fun l => k (.box g l)
  | .arr _ sh n xs => k (.arr g sh n xs)
theorem renOK_eq (ids : Ids) (g : Nat) (o : Ob) (k : Ob → Pr) : renOK ids g o k = k (renO ids g o) := by
  cases o <;> simp only [renOK, renO, mapK_eq]
/-- a call, as it is told -/
structure Rec where
  ids : Ids
  args : List V
  os : List Ob
  res : List V
  os' : List Ob
/-- the handed objects are in the table -/
def getsK (ids0 : Ids) : Ids → List Ob → Pr → Pr
  | (id, g) :: ids, o :: os, k => .getO id fun x => .ex PUnit (fun _ => x = some (renO ids0 g o)) fun _ => getsK ids0 ids os k
  | [], [], k => k
  | _, _, _ => .fail
theorem getsK_spec {ids0 : Ids} {s : St} {k : Pr} : ∀ {ids : Ids} {os : List Ob}, (getsK ids0 ids os k).mwp s K → ids.length = os.length ∧ (∀ (j : Nat) (o : Ob) (id g : Nat), os[j]? = some o → ids[j]? = some (id, g) → s.O id = some (renO ids0 g o)) ∧ k.mwp s K
  | [], [], h => ⟨rfl, fun j o id g hj => by simp at hj, h⟩
  | (id, g) :: ids, o :: os, h => by
    simp only [getsK, Pr.mwp] at h
    obtain ⟨_, h1, h⟩ := h
    obtain ⟨h2, h3, h4⟩ := getsK_spec h
    refine ⟨by simp [h2], fun j o' id' g' hj hi => ?_, h4⟩
    cases j with
    | zero => simp only [List.getElem?_cons_zero, Option.some.injEq, Prod.mk.injEq] at hj hi; rw [← hj, ← hi.1, ← hi.2]; exact h1
    | succ j => exact h3 j o' id' g' (by simpa using hj) (by simpa using hi)
  | [], _ :: _, h => h.elim
  | _ :: _, [], h => h.elim
/-- names for new objects -/
def newsK (b : Nat) : List Ob → (Ids → Pr) → Pr
  | [], k => k []
  | _ :: os, k => .getO b fun old => genK old fun g => newsK (b + 1) os fun ids => k ((b, g) :: ids)
theorem newsK_spec {s : St} : ∀ {os : List Ob} {b : Nat} {k : Ids → Pr}, (newsK b os k).mwp s K → ∃ ids : Ids, ids.length = os.length ∧ (∀ (j id g : Nat), ids[j]? = some (id, g) → id = b + j ∧ ∀ o, s.O id = some o → o.gen < g) ∧ (k ids).mwp s K
  | [], b, k, h => ⟨[], rfl, fun j id g hj => by simp at hj, h⟩
  | o :: os, b, k, h => by
    simp only [newsK, Pr.mwp] at h
    obtain ⟨g, hg, h⟩ := genK_spec h
    obtain ⟨ids, h1, h2, h3⟩ := newsK_spec h
    refine ⟨_, by simp [h1], fun j id g' hj => ?_, h3⟩
    cases j with
    | zero => simp only [List.getElem?_cons_zero, Option.some.injEq, Prod.mk.injEq] at hj; obtain ⟨rfl, rfl⟩ := hj; exact ⟨rfl, hg⟩
    | succ j => obtain ⟨h4, h5⟩ := h2 j id g' (by simpa using hj); exact ⟨by omega, h5⟩
def aft : Ids → List Ob → Ids
  | (id, g) :: ids, .box _ _ :: os => (id, g) :: aft ids os
  | (id, g) :: ids, .arr _ _ _ _ :: os => (id, g + 1) :: aft ids os
  | _, _ => []
theorem aft_spec : ∀ {ids : Ids} {os : List Ob}, ids.length = os.length → (aft ids os).length = os.length ∧ ∀ (j : Nat) (o : Ob) (id g : Nat), os[j]? = some o → ids[j]? = some (id, g) → (aft ids os)[j]? = some (id, match o with | .box _ _ => g | .arr _ _ _ _ => g + 1)
  | [], [], _ => ⟨rfl, fun j o id g hj => by simp at hj⟩
  | (id, g) :: ids, o :: os, h => by
    obtain ⟨h1, h2⟩ := aft_spec (ids := ids) (os := os) (by simpa using h)
    cases o with
    | box gb c =>
      refine ⟨by simp [aft, h1], fun j o' id' g' hj hi => ?_⟩
      cases j with
      | zero => simp only [List.getElem?_cons_zero, Option.some.injEq, Prod.mk.injEq] at hj hi; obtain ⟨rfl, rfl⟩ := hi; subst hj; rfl
      | succ j => exact h2 j o' id' g' (by simpa using hj) (by simpa using hi)
    | arr gb sh n xs =>
      refine ⟨by simp [aft, h1], fun j o' id' g' hj hi => ?_⟩
      cases j with
      | zero => simp only [List.getElem?_cons_zero, Option.some.injEq, Prod.mk.injEq] at hj hi; obtain ⟨rfl, rfl⟩ := hi; subst hj; rfl
      | succ j => exact h2 j o' id' g' (by simpa using hj) (by simpa using hi)
  | [], _ :: _, h => by simp at h
  | _ :: _, [], h => by simp at h
def putsK (ids0 : Ids) : Ids → List Ob → Pr → Pr
  | (id, g) :: ids, o :: os, k => renOK ids0 g o fun o' => .putO id o' (putsK ids0 ids os k)
  | _, _, k => k
def putAll (ids0 : Ids) : Ids → List Ob → St → St
  | (id, g) :: ids, o :: os, s => putAll ids0 ids os (s.putO id (renO ids0 g o))
  | _, _, s => s
theorem putsK_eq (ids0 : Ids) : ∀ (ids : Ids) (os : List Ob) (s : St) (k : Pr), (putsK ids0 ids os k).mwp s K = k.mwp (putAll ids0 ids os s) K
  | (id, g) :: ids, o :: os, s, k => by simp only [putsK, renOK_eq, Pr.mwp, putAll]; exact putsK_eq ids0 ids os _ k
  | [], _, _, _ => by simp [putsK, putAll]
  | _ :: _, [], _, _ => by simp [putsK, putAll]
theorem putAll_V (ids0 : Ids) : ∀ (ids : Ids) (os : List Ob) (s : St) (t : Nat), (putAll ids0 ids os s).V t = s.V t
  | (id, g) :: ids, o :: os, s, t => by simp only [putAll]; rw [putAll_V]; rfl
  | [], _, _, _ => by simp [putAll]
  | _ :: _, [], _, _ => by simp [putAll]
theorem putAll_out (ids0 : Ids) : ∀ (ids : Ids) (os : List Ob) (s : St) (id : Nat), (∀ (j a g : Nat), ids[j]? = some (a, g) → a ≠ id) → (putAll ids0 ids os s).O id = s.O id
  | (a, g) :: ids, o :: os, s, id, h => by
    simp only [putAll]
    rw [putAll_out ids0 ids os _ id (fun j b g' hj => h (j + 1) b g' (by simpa using hj)), St.O_putO, if_neg (h 0 a g rfl)]
  | [], _, _, _, _ => by simp [putAll]
  | _ :: _, [], _, _, _ => by simp [putAll]
theorem putAll_in (ids0 : Ids) : ∀ (ids : Ids) (os : List Ob) (s : St), Dist ids → ∀ (j id g : Nat) (o : Ob), ids[j]? = some (id, g) → os[j]? = some o → (putAll ids0 ids os s).O id = some (renO ids0 g o)
  | (a, g0) :: ids, o0 :: os, s, hd, j, id, g, o, hi, ho => by
    have hd' : Dist ids := fun i k x y hx hy e => by have := hd (i + 1) (k + 1) x y (by simpa using hx) (by simpa using hy) e; omega
    cases j with
    | zero =>
      simp only [List.getElem?_cons_zero, Option.some.injEq, Prod.mk.injEq] at hi ho
      obtain ⟨rfl, rfl⟩ := hi; subst ho
      simp only [putAll]
      rw [putAll_out ids0 ids os _ a (fun k b g' hk e => by have := hd 0 (k + 1) (a, g0) (b, g') rfl (by simpa using hk) e.symm; omega), St.O_putO, if_pos rfl]
    | succ j => simp only [putAll]; exact putAll_in ids0 ids os _ hd' j id g o (by simpa using hi) (by simpa using ho)
  | [], _, _, _, j, id, g, o, hi, ho => by simp at hi
  | _ :: _, [], _, _, j, id, g, o, hi, ho => by simp at ho
def distB (b : Nat) : Ids → Bool
  | [] => true
  | (id, _) :: ids => ids.all (fun p => !Nat.beq p.1 id) && (Nat.blt id b || Nat.ble (b + 64) id) && distB b ids
theorem distB_spec {b : Nat} : ∀ {ids : Ids}, distB b ids = true → Dist ids ∧ ∀ (j id g : Nat), ids[j]? = some (id, g) → id < b ∨ b + 64 ≤ id
  | [], _ => ⟨fun i j a b hi => by simp at hi, fun j id g hj => by simp at hj⟩
  | (id, g) :: ids, h => by
    simp only [distB, Bool.and_eq_true, Bool.or_eq_true] at h
    obtain ⟨⟨h1, h2⟩, h3⟩ := h
    obtain ⟨h4, h5⟩ := distB_spec h3
    have hne : ∀ (j : Nat) (b : Nat × Nat), ids[j]? = some b → b.1 ≠ id := fun j b hb e => by
      have := List.all_eq_true.1 h1 b (List.mem_of_getElem? hb)
      simp [e] at this
    refine ⟨fun i j x y hx hy e => ?_, fun j id' g' hj => ?_⟩
    · cases i with
      | zero =>
        cases j with
        | zero => rfl
        | succ j => simp only [List.getElem?_cons_zero, Option.some.injEq] at hx; subst hx; exact absurd e.symm (hne j y (by simpa using hy))
      | succ i =>
        cases j with
        | zero => simp only [List.getElem?_cons_zero, Option.some.injEq] at hy; subst hy; exact absurd e (hne i x (by simpa using hx))
        | succ j => rw [h4 i j x y (by simpa using hx) (by simpa using hy) e]
    · cases j with
      | zero => simp only [List.getElem?_cons_zero, Option.some.injEq, Prod.mk.injEq] at hj; rw [← hj.1]; exact h2.imp (fun h => by simpa using h) Nat.le_of_ble_eq_true
      | succ j => exact h5 j id' g' (by simpa using hj)
/-- the call of a function -/
def callK (P : Program) [Env P] (nt : Nat) (o : Oper) (f : FuncId) (avs : List V) : Pr := shAL avs fun avs' => match o.dst with
  | none => .fail
  | some d => .ex Rec (fun r => Good P f r.args r.os r.res r.os' ∧ r.args.map (renA r.ids) = avs' ∧ r.args.all (okA r.os.length) = true ∧ r.os.all (okO r.os.length) = true) fun r => match distB (1024 + 64 * d) r.ids with
    | false => .fail
    | true => getsK r.ids r.ids r.os (force (r.os'.drop r.os.length) fun nw => newsK (1024 + 64 * d) nw fun ns => force (aft r.ids r.os ++ ns) fun ids' => match Nat.ble nw.length 64 with
      | false => .fail
      | true => putsK ids' ids' r.os' (match r.res with
        | [p] => renAK ids' p fun q => setD nt (some d) q .done
        | ps => renALK ids' ps fun qs => setD nt (some d) (.tup qs) .done))
end
end Go.PV
