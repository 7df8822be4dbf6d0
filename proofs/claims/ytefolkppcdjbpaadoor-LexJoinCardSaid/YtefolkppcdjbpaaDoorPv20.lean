/- Part of the proof of LexJoin. -/
import Derived.Test.YtefolkppcdjbpaaDoorPv19
namespace Go.PV
open Go Go.RowKit
/-! a function's contract, out of its body -/
def resK (P : Program) : List ResultVar → (List V → Pr) → Pr
  | [], k => k []
  | .tmp t :: r, k => .get t fun v => resK P r fun vs => k (v :: vs)
  | .cell a t :: r, k => .get a fun v => match v with
    | .ptr id gen off => boxK id gen fun cells => ldK P t (cells.drop off) fun p => resK P r fun vs => k (p :: vs)
    | _ => .fail
def incK : Nat → Nat → (Ids → Pr) → Pr
  | _, 0, k => k []
  | b, m + 1, k => .getO b fun o => match o with
    | some (.box g _) => incK (b + 1) m fun ids => k ((b, g) :: ids)
    | some (.arr g _ _ _) => incK (b + 1) m fun ids => k ((b, g) :: ids)
    | none => .fail
def distA : Ids → Bool
  | [] => true
  | (id, _) :: ids => ids.all (fun p => !Nat.beq p.1 id) && distA ids
def kindB : List Ob → List Ob → Bool
  | [], _ => true
  | .box _ _ :: r, .box _ _ :: s => kindB r s
  | .box _ _ :: _, _ => false
  | .arr _ _ _ _ :: r, s => kindB r s.tail
def anySl : List V → Bool
  | [] => false
  | .sl _ _ :: _ => true
  | _ :: l => anySl l
/-- a result of one's own that is to be data -/
def shT (t v : V) (k : V → Pr) : Pr := match t with
  | .sl n _ => match v with
    | .nil => k (.sl n [])
    | v => shA v k
  | .agg l => match anySl l with
    | true => shA v k
    | false => k v
  | _ => k v
def shTL : List V → List V → (List V → Pr) → Pr
  | t :: ts, v :: vs, k => shT t v fun p => shTL ts vs fun ps => k (p :: ps)
  | _, vs, k => k vs
def finPr (P : Program) (rs : List ResultVar) (m : Nat) (res : List V) (os' : List Ob) : Pr :=
  resK P rs fun us => shTL res us fun vs => incK 0 m fun inc => .ex Ids (fun nw => vs = res.map (renA (inc ++ nw))) fun nw => match distA (inc ++ nw) with
    | true => getsK (inc ++ nw) (inc ++ nw) os' .done
    | false => .fail
/-- at the end of the body -/
def fin (P : Program) (rs : List ResultVar) (m : Nat) (res : List V) (os' : List Ob) (e : Exit) (s : St) : Prop := match e with
  | .normal => (finPr P rs m res os').wp s [] [] fun _ _ _ => True
  | .ret => (finPr P rs m res os').wp s [] [] fun _ _ _ => True
  | _ => False
def inT : Nat → List V → List (Nat × V)
  | _, [] => []
  | i, v :: vs => (i, v) :: inT (i + 1) vs
def inO : Nat → List Ob → List (Nat × Ob)
  | _, [] => []
  | i, o :: os => (i, o) :: inO (i + 1) os
theorem inT_spec : ∀ (l : List V) (i t : Nat), lkV (inT i l) t = if i ≤ t then (l[t - i]?).getD .dead else .dead
  | [], i, t => by simp [inT, lkV]
  | v :: vs, i, t => by
    rw [inT, lkV_cons, inT_spec vs (i + 1) t]
    by_cases h : i = t
    · subst h; simp
    · rw [if_neg h]
      by_cases h2 : i ≤ t
      · rw [if_pos h2, if_pos (by omega), show t - i = (t - (i + 1)) + 1 by omega, List.getElem?_cons_succ]
      · rw [if_neg h2, if_neg (by omega)]
theorem inO_spec : ∀ (l : List Ob) (i t : Nat), lk (inO i l) t = if i ≤ t then l[t - i]? else none
  | [], i, t => by simp [inO, lk]
  | v :: vs, i, t => by
    rw [inO, lk_cons, inO_spec vs (i + 1) t]
    by_cases h : i = t
    · subst h; simp
    · rw [if_neg h]
      by_cases h2 : i ≤ t
      · rw [if_pos h2, if_pos (by omega), show t - i = (t - (i + 1)) + 1 by omega, List.getElem?_cons_succ]
      · rw [if_neg h2, if_neg (by omega)]
section
variable {P : Program} {E : Ent} {G : Gh} {s : St} {a : Act} {w : World} {K : St → Prop}
def evR (tmps : Array Value) (x : ResultVar) : Sem Value := match x with
  | .tmp t => pure (tmps.getD t undef)
  | .cell c t => do let ad ← asAddr (tmps.getD c undef); loadVar t ad
theorem results_eq (fn : Func) (tmps : Array Value) : results fn tmps = (do let vs ← fn.results.mapM (evR tmps); pure (if h : vs.size = 1 then vs[0] else .tuple vs) : Sem Value) := by
  have : evR tmps = fun x => match x with
    | .tmp t => pure (tmps.getD t undef)
    | .cell c t => (do let ad ← asAddr (tmps.getD c undef); loadVar t ad : Sem Value) := by funext x; cases x <;> rfl
  rw [this]; rfl
theorem resK_spec (hR : RG E G s a w) : ∀ {rs : List ResultVar} {k : List V → Pr}, (resK P rs k).mwp s K → ∃ (vs : List V) (xs : List Value), (k vs).mwp s K ∧ xs.length = vs.length ∧
    (rs.mapM (evR a.tmps)).run P w = .ok xs w ∧ ∀ (j : Nat) (p : V), vs[j]? = some p → ∃ x, xs[j]? = some x ∧ RV G w s.O p x
  | [], k, h => ⟨[], [], h, rfl, by simp, fun j p hj => by simp at hj⟩
  | .tmp t :: r, k, h => by
    simp only [resK, Pr.mwp] at h
    obtain ⟨vs, xs, h1, h2, h3, h4⟩ := resK_spec hR h
    refine ⟨_, a.tmps.getD t undef :: xs, h1, by simp [h2], by simp [List.mapM_cons, h3, evR], fun j p hj => ?_⟩
    cases j with
    | zero => simp only [List.getElem?_cons_zero, Option.some.injEq] at hj; subst hj; exact ⟨_, rfl, hR.tm t⟩
    | succ j => exact h4 j p (by simpa using hj)
  | .cell c t :: r, k, h => by
    simp only [resK, Pr.mwp] at h
    split at h
    · rename_i id gen off e
      have hv := hR.tm c
      rw [e] at hv
      obtain ⟨cells, hO, h⟩ := boxK_spec h
      obtain ⟨p, v, h, hld, hp⟩ := ldK_ok (b := G.blk id) (off := off) (G := G) (w := w) h fun j p hj => hR.box_cells hO _ p (by rw [List.getElem?_drop] at hj; exact hj)
      obtain ⟨vs, xs, h1, h2, h3, h4⟩ := resK_spec hR h
      have hptr := hv.ptr_inv hO
      refine ⟨_, v :: xs, h1, by simp [h2], by simp [List.mapM_cons, h3, hptr, asAddr, hld, evR], fun j q hj => ?_⟩
      cases j with
      | zero => simp only [List.getElem?_cons_zero, Option.some.injEq] at hj; subst hj; exact ⟨_, rfl, hp⟩
      | succ j => exact h4 j q (by simpa using hj)
    · exact h.elim
theorem shT_ok {G : Gh} {s : St} {t v : V} {k : V → Pr} {x : Value} (hR : RG E G s a w) (hx : RV G w s.O v x) (h : (shT t v k).mwp s K) :
    ∃ G' s' p, RG E G' s' a w ∧ Le G w s.O G' w s'.O ∧ (k p).mwp s' K ∧ RV G' w s'.O p x := by
  have sh : (shA v k).mwp s K → ∃ G' s' p, RG E G' s' a w ∧ Le G w s.O G' w s'.O ∧ (k p).mwp s' K ∧ RV G' w s'.O p x := fun h => by
    obtain ⟨G', s', p, h1, h2, _, h4, h5⟩ := shA_ok hR hx h
    exact ⟨G', s', p, h1, h2, h4, .any _ _ h5⟩
  unfold shT at h
  split at h
  · split at h
    · refine ⟨G, s, _, hR, .refl, h, ?_⟩
      cases hx with
      | any _ _ hx => cases hx with
        | cell _ _ hx => cases hx with
          | sh _ _ hx => cases hx; exact .any _ _ (.cell _ _ (.sh _ _ (.sl0 _ _ _)))
    · exact sh h
  · split at h
    · exact sh h
    · exact ⟨G, s, _, hR, .refl, h, hx⟩
  · exact ⟨G, s, _, hR, .refl, h, hx⟩
theorem shTL_ok : ∀ {ts l : List V} {G : Gh} {s : St} {k : List V → Pr} {xs : List Value}, RG E G s a w → l.length = xs.length → (∀ (j : Nat) (p : V), l[j]? = some p → ∃ c, xs[j]? = some c ∧ RV G w s.O p c) → (shTL ts l k).mwp s K →
    ∃ G' s' ps, RG E G' s' a w ∧ Le G w s.O G' w s'.O ∧ (k ps).mwp s' K ∧ ps.length = xs.length ∧ ∀ (j : Nat) (p : V), ps[j]? = some p → ∃ c, xs[j]? = some c ∧ RV G' w s'.O p c
  | [], l, G, s, k, xs, hR, hl, hc, h => ⟨G, s, l, hR, .refl, by simpa [shTL] using h, hl, hc⟩
  | _ :: _, [], G, s, k, xs, hR, hl, hc, h => ⟨G, s, [], hR, .refl, by simpa [shTL] using h, hl, hc⟩
  | t :: ts, v :: vs, G, s, k, xs, hR, hl, hc, h => by
    cases xs with
    | nil => simp at hl
    | cons x xs =>
      obtain ⟨c, h1, h2⟩ := hc 0 v rfl
      simp only [List.getElem?_cons_zero, Option.some.injEq] at h1; subst h1
      simp only [shTL] at h
      obtain ⟨G1, s1, p, hR1, hle1, h, hp⟩ := shT_ok hR h2 h
      obtain ⟨G2, s2, ps, hR2, hle2, h, hl2, hps⟩ := shTL_ok (xs := xs) hR1 (by simpa using hl) (fun j p hj => by
        obtain ⟨c, h3, h4⟩ := hc (j + 1) p (by simpa using hj)
        exact ⟨c, by simpa using h3, h4.mono hle1⟩) h
      refine ⟨G2, s2, p :: ps, hR2, hle1.trans hle2, h, by simp [hl2], fun j q hj => ?_⟩
      cases j with
      | zero => simp only [List.getElem?_cons_zero, Option.some.injEq] at hj; subst hj; exact ⟨_, rfl, hp.mono hle2⟩
      | succ j => exact hps j q (by simpa using hj)
theorem incK_spec : ∀ {m b : Nat} {k : Ids → Pr}, (incK b m k).mwp s K → ∃ ids : Ids, ids.length = m ∧ (∀ (j id g : Nat), ids[j]? = some (id, g) → id = b + j) ∧ (k ids).mwp s K
  | 0, b, k, h => ⟨[], rfl, fun j id g hj => by simp at hj, h⟩
  | m + 1, b, k, h => by
    simp only [incK, Pr.mwp] at h
    have fin : ∀ {g : Nat}, (incK (b + 1) m fun ids => k ((b, g) :: ids)).mwp s K → ∃ ids : Ids, ids.length = m + 1 ∧ (∀ (j id g : Nat), ids[j]? = some (id, g) → id = b + j) ∧ (k ids).mwp s K := by
      intro g h
      obtain ⟨ids, h1, h2, h3⟩ := incK_spec h
      refine ⟨_, by simp [h1], fun j id g' hj => ?_, h3⟩
      cases j with
      | zero => simp only [List.getElem?_cons_zero, Option.some.injEq, Prod.mk.injEq] at hj; omega
      | succ j => have := h2 j id g' (by simpa using hj); omega
    split at h
    · exact fin h
    · exact fin h
    · exact h.elim
end
theorem distA_spec : ∀ {ids : Ids}, distA ids = true → Dist ids
  | [], _ => fun i j a b hi => by simp at hi
  | (id, g) :: ids, h => by
    simp only [distA, Bool.and_eq_true] at h
    have h4 := distA_spec h.2
    have hne : ∀ (j : Nat) (b : Nat × Nat), ids[j]? = some b → b.1 ≠ id := fun j b hb e => by
      have := List.all_eq_true.1 h.1 b (List.mem_of_getElem? hb)
      simp [e] at this
    intro i j x y hx hy e
    cases i with
    | zero =>
      cases j with
      | zero => rfl
      | succ j => simp only [List.getElem?_cons_zero, Option.some.injEq] at hx; subst hx; exact absurd e.symm (hne j y (by simpa using hy))
    | succ i =>
      cases j with
      | zero => simp only [List.getElem?_cons_zero, Option.some.injEq] at hy; subst hy; exact absurd e (hne i x (by simpa using hx))
      | succ j => rw [h4 i j x y (by simpa using hx) (by simpa using hy) e]
theorem kindB_spec : ∀ {os os' : List Ob}, kindB os os' = true → ∀ (k g : Nat) (c : List V), os[k]? = some (.box g c) → ∃ g' c', os'[k]? = some (.box g' c')
  | [], _, _, k, g, c, hk => by simp at hk
  | .box _ _ :: r, .box g' c' :: s, h, k, g, c, hk => by
    cases k with
    | zero => exact ⟨g', c', rfl⟩
    | succ k => exact kindB_spec (os := r) (os' := s) h k g c (by simpa using hk)
  | .box _ _ :: r, [], h, _, _, _, _ => by simp [kindB] at h
  | .box _ _ :: r, .arr _ _ _ _ :: s, h, _, _, _, _ => by simp [kindB] at h
  | .arr _ _ _ _ :: r, s, h, k, g, c, hk => by
    cases k with
    | zero => simp at hk
    | succ k =>
      obtain ⟨g', c', h1⟩ := kindB_spec (os := r) (os' := s.tail) h k g c (by simpa using hk)
      refine ⟨g', c', ?_⟩
      cases s with
      | nil => simp at h1
      | cons x s => simpa using h1
def notDead : V → Bool
  | .dead => false
  | _ => true
/-- what a body has to show -/
structure Body (P : Program) [Env P] (fn : Func) (lv js : List Nat) (args : List V) (os : List Ob) (res : List V) (os' : List Ob) : Prop where
  small : (Nat.ble args.length fn.ntmps && Nat.ble os.length 64) = true
  okR : res.all (okA os'.length) = true
  full : res.all notDead = true
  okO' : os'.all (okO os'.length) = true
  kind : kindB os os' = true
  len : Nat.ble os.length os'.length = true
  body : ∃ c, fn.body = some c ∧ ev P fn.ntmps lv js c ⟨inT 0 args, inO 0 os⟩ (fin P fn.results.toList os.length res os')
theorem good_of {P : Program} [Env P] (hP : P.follows .mixedOrders = true) {f : FuncId} {fn : Func} (hf : P.funcs[f]? = some fn) (hname : (fn.name == "runtime.NumGoroutine") = false) {lv js : List Nat} {args : List V} {os : List Ob} {res : List V} {os' : List Ob} (h : Body P fn lv js args os res os') : Good P f args os res os' := by
  obtain ⟨hsmall, hokR, hfull, hokO', hkind, hlen, c, hb, hev⟩ := h
  simp only [Bool.and_eq_true] at hsmall
  have hna := Nat.le_of_ble_eq_true hsmall.1
  have hno := Nat.le_of_ble_eq_true hsmall.2
  have hlen := Nat.le_of_ble_eq_true hlen
  have hkind := kindB_spec hkind
  refine ⟨⟨fn, hf, by rw [hb]; rfl, hname⟩, hlen, hokR, hokO', hkind, fun vs w G hargs hros hglo hz => ?_⟩
  let E : Ent := { G := G, w := w, nt := fn.ntmps, bx := fun k => match os[k]? with | some (.box _ _) => some (G.blk k) | _ => none }
  refine calls_of_wp hf hb ?_
  have hO : (⟨inT 0 args, inO 0 os⟩ : St).O = tbl os := by
    funext id; simp only [St.O, inO_spec, Nat.zero_le, if_true, Nat.sub_zero]; rfl
  have hR : R E ⟨inT 0 args, inO 0 os⟩ { tmps := vs ++ Array.replicate (fn.ntmps - vs.size) undef, defers := [] } w := by
    refine ⟨G, ?_, rfl, fun t => ?_, fun id o ho => ?_, ⟨rfl, rfl, rfl, Nat.le_refl _, fun _ _ _ h => h, fun _ _ _ => ⟨rfl, rfl⟩, fun id b hb => ?_⟩, fun id b hb => ?_⟩
    · simp only [Array.size_append, Array.size_replicate]; have := hargs.1; show _ = fn.ntmps; omega
    · rw [hO]
      simp only [St.V, inT_spec, Nat.zero_le, if_true, Nat.sub_zero]
      cases hp : args[t]? with
      | none => exact .dead _
      | some p =>
        obtain ⟨v, h1, h2⟩ := hargs.2 t p hp
        have hlt := (Array.getElem?_eq_some_iff.1 h1).1
        rw [Array.getD_eq_getD_getElem?, Array.getElem?_append_left hlt, h1]
        exact .any _ _ h2
    · rw [hO] at ho ⊢; exact hros id o ho
    · simp only [E] at hb
      split at hb
      · rename_i e
        have := (List.getElem?_eq_some_iff.1 e).1
        exact ⟨by omega, by cases hb; rfl⟩
      · cases hb
    · rw [hO]
      simp only [E] at hb
      split at hb
      · rename_i g c e; exact ⟨g, c, e⟩
      · cases hb
  refine wp_mono (ev_ok hP hev E _ w ⟨rfl, hglo, hz⟩ hR) ?_
  rintro e a' w' ⟨s', hq, G1, hR1⟩
  have done : (finPr P fn.results.toList os.length res os').wp s' [] [] (fun _ _ _ => True) → a'.defers = [] ∧ ∃ v, (results fn a'.tmps).run P w' = .ok v w' ∧ (∃ rv G', Ending.returned v = .returned rv ∧ resRel G' w' (tbl os') res rv ∧ (∀ (k : Nat) (o : Ob), os'[k]? = some o → RO G' w' (tbl os') k o) ∧ Keep G w G' w' os) := by
    intro h
    refine ⟨hR1.df, ?_⟩
    obtain ⟨_, _, _, _, hruns, _, _⟩ := Pr.wp_runs h
    have hm := hruns.mwp
    simp only [finPr] at hm
    obtain ⟨us', xs, hm, hxl0, hrun, hxs0⟩ := resK_spec hR1 hm
    have hdf := hR1.df
    obtain ⟨G1, s', vs', hR1, _, hm, hxl, hxs⟩ := shTL_ok hR1 hxl0.symm hxs0 hm
    have hxl := hxl.symm
    obtain ⟨inc, hi1, hi2, hm⟩ := incK_spec hm
    obtain ⟨nw, hvs, hm⟩ := hm
    dsimp only at hm
    split at hm
    case h_2 => exact hm.elim
    rename_i hd
    have hd := distA_spec hd
    obtain ⟨g1, g2, _⟩ := getsK_spec hm
    have hN : Named (inc ++ nw) os' s'.O := ⟨g1, g2⟩
    have hok := fun o ho => List.all_eq_true.1 hokO' o ho
    have hres : (results fn a'.tmps).run P w' = .ok (if h : xs.toArray.size = 1 then xs.toArray[0] else .tuple xs.toArray) w' := by
      rw [results_eq, Array.mapM_eq_mapM_toList]
      simp only [Sem.run_bind, Sem.run_map, hrun, Result.andThen_ok]
      rfl
    refine ⟨_, hres, _, downG (inc ++ nw) G1, rfl, ?_, fun k o ho => ?_, ?_⟩
    · have hc : Cells (RA (downG (inc ++ nw) G1) w' (tbl os')) res xs.toArray := by
        refine ⟨by rw [List.size_toArray, hxl, hvs]; simp, fun j p hj => ?_⟩
        obtain ⟨x, h1, h2⟩ := hxs j (renA (inc ++ nw) p) (by rw [hvs, List.getElem?_map, hj]; rfl)
        refine ⟨x, by simpa using h1, ?_⟩
        have hokp := List.all_eq_true.1 hokR p (List.mem_of_getElem? hj)
        have : RA G1 w' s'.O (renA (inc ++ nw) p) x := by
          have hnd := List.all_eq_true.1 hfull p (List.mem_of_getElem? hj)
          have hids : ∀ k, k < os'.length → ∃ id g, (inc ++ nw)[k]? = some (id, g) := fun k hk => by
            have hk' : k < (inc ++ nw).length := by rw [g1]; exact hk
            exact ⟨_, _, List.getElem?_eq_getElem hk'⟩
          have hnt : renA (inc ++ nw) p ≠ .dead ∧ (∀ l, renA (inc ++ nw) p ≠ .tup l) ∧ (∀ a b c d, renA (inc ++ nw) p ≠ .elp a b c d) ∧ (∀ l, renA (inc ++ nw) p ≠ .rp l) := by
            cases p with
            | ptr k g off =>
              simp only [okA, okC, okB, Bool.and_eq_true] at hokp
              obtain ⟨id, g', e⟩ := hids k (by simpa using hokp.1)
              simp [renA, renC, renB, e]
            | own k g =>
              simp only [okA, okC, okB, Bool.and_eq_true] at hokp
              obtain ⟨id, g', e⟩ := hids k (by simpa using hokp.1)
              simp [renA, renC, renB, e]
            | _ => first | (simp [notDead] at hnd; done) | (simp [okA, okC, okB] at hokp; done) | simp [renA, renC, renB]
          revert h2 hnt
          generalize renA (inc ++ nw) p = q
          intro h2 hnt
          cases h2 with
          | dead => exact absurd rfl hnt.1
          | any _ _ h => exact h
          | tup l => exact absurd rfl (hnt.2.1 l)
          | elp => exact absurd rfl (hnt.2.2.1 _ _ _ _)
          | rp l => exact absurd rfl (hnt.2.2.2 l)
        exact downA hN hok this hokp
      unfold resRel
      split
      · have hs1 : xs.toArray.size = 1 := hc.1
        rw [dif_pos hs1]
        obtain ⟨c, h1, h2⟩ := hc.2 0 _ rfl
        rw [Array.getElem?_eq_getElem (by omega)] at h1; cases h1; exact h2
      · rename_i hne
        have hs1 : ¬ xs.toArray.size = 1 := by
          intro h
          rw [hc.1] at h
          obtain ⟨p, hp⟩ := List.length_eq_one_iff.1 h
          exact hne p hp
        rw [dif_neg hs1]
        exact ⟨_, rfl, hc⟩
    · have hk := (List.getElem?_eq_some_iff.1 ho).1
      obtain ⟨id, g, o2, e1, e2, e3, _⟩ := hN.at_ hok hk
      rw [ho] at e2; cases e2
      exact downO hN hd hok ho e1 (hR1.ob id _ e3)
    · refine ⟨hR1.fr.os, hR1.fr.tape, hR1.fr.output, hR1.fr.size, hR1.fr.st, fun k hk hn => ?_, fun k g c hk => ?_⟩
      · obtain ⟨h1, h2⟩ := hR1.fr.im k hk hn
        refine ⟨?_, h2⟩
        simp only [downG]
        rw [h1]
        show (⟨(G.own k).ow.bind _, (G.own k).lim⟩ : Own) = G.own k
        rw [hn]; cases hg : G.own k; simp_all
      · have hbx : E.bx k = some (G.blk k) := by simp only [E, hk]
        have h1 := (hR1.fr.bx k _ hbx).2
        have hlt := (List.getElem?_eq_some_iff.1 hk).1
        have hget : ((inc ++ nw).getD k (0, 0)).1 = k := by
          rw [List.getD_eq_getElem?_getD, List.getElem?_append_left (by rw [hi1]; exact hlt), List.getElem?_eq_getElem (by rw [hi1]; exact hlt)]
          have := hi2 k _ _ (List.getElem?_eq_getElem (by rw [hi1]; exact hlt))
          simpa using this
        simp only [downG, hget]; exact h1
  cases e with
  | normal => exact done hq
  | ret => exact done hq
  | _ => exact hq.elim
end Go.PV
