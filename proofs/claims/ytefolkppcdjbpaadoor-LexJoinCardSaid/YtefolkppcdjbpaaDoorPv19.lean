/- Part of the proof of LexJoin. -/
import Derived.Test.YtefolkppcdjbpaaDoorPv18
namespace Go.PV
open Go Go.RowKit
/-! a cut: some slots, some objects, all times set back -/
def okH (ob : List (Nat × Ob)) (ko : List Nat) (id g : Nat) : Bool := match Nat.blt id 64 || seenB id ko with
  | true => match lk ob id with
    | some o => Nat.beq o.gen g
    | none => false
  | false => false
def normB (ob : List (Nat × Ob)) (ko : List Nat) (v : V) : V := match v with
  | .own id g => match okH ob ko id g with | true => .own id 0 | false => .dead
  | .ptr id g off => match okH ob ko id g with | true => .ptr id 0 off | false => .dead
  | .fn f cs => match cs with | [] => .fn f [] | _ :: _ => .dead
  | v => v
def normC (ob : List (Nat × Ob)) (ko : List Nat) (v : V) : V := match v with
  | .fn f cs => .fn f (cs.map (normB ob ko))
  | v => normB ob ko v
def normA (ob : List (Nat × Ob)) (ko : List Nat) (v : V) : V := match v with
  | .agg l => .agg (l.map (normC ob ko))
  | .tup _ => .dead
  | .elp _ _ _ _ => .dead
  | v => normC ob ko v
def normO (ob : List (Nat × Ob)) (ko : List Nat) (o : Ob) : Ob := match o with
  | .box _ cells => .box 0 (cells.map (normC ob ko))
  | .arr _ sh n xs => .arr 0 sh n xs
def mapP (f : V → V) : List V → (List V → Prop) → Prop
  | [], k => k []
  | v :: vs, k => forceP (f v) fun p => mapP f vs fun ps => k (p :: ps)
theorem mapP_eq (f : V → V) (l : List V) (k : List V → Prop) : mapP f l k = k (l.map f) := by
  induction l generalizing k with
  | nil => rfl
  | cons x xs ih => simp only [mapP, forceP_eq, ih, List.map_cons]
def normAP (ob : List (Nat × Ob)) (ko : List Nat) (v : V) (k : V → Prop) : Prop := match v with
  | .agg l => mapP (normC ob ko) l fun l' => k (.agg l')
  | .tup _ => k .dead
  | .elp _ _ _ _ => k .dead
  | v => forceP (normC ob ko v) k
theorem normAP_eq (ob : List (Nat × Ob)) (ko : List Nat) (v : V) (k : V → Prop) : normAP ob ko v k = k (normA ob ko v) := by
  cases v <;> simp only [normAP, normA, mapP_eq, forceP_eq]
def normOP (ob : List (Nat × Ob)) (ko : List Nat) (o : Ob) (k : Ob → Prop) : Prop := match o with
  | .box _ cells => mapP (normC ob ko) cells fun l => k (.box 0 l)
  | .arr _ sh n xs => k (.arr 0 sh n xs)
theorem normOP_eq (ob : List (Nat × Ob)) (ko : List Nat) (o : Ob) (k : Ob → Prop) : normOP ob ko o k = k (normO ob ko o) := by
  cases o <;> simp only [normOP, normO, mapP_eq]
def cutT (ob : List (Nat × Ob)) (ko : List Nat) : List Nat → List (Nat × V) → (List (Nat × V) → Prop) → Prop
  | [], _, K => K []
  | t :: ts, tm, K => normAP ob ko (lkV tm t) fun v => match v with
    | .dead => cutT ob ko ts tm K
    | v => cutT ob ko ts tm fun l => K ((t, v) :: l)
theorem cutT_spec {ob : List (Nat × Ob)} {ko : List Nat} {tm : List (Nat × V)} : ∀ {ts : List Nat} {K : List (Nat × V) → Prop}, cutT ob ko ts tm K → ∃ l, K l ∧ ∀ t, lkV l t = normA ob ko (lkV tm t) ∨ lkV l t = .dead
  | [], K, h => ⟨[], h, fun t => .inr rfl⟩
  | t :: ts, K, h => by
    simp only [cutT, normAP_eq] at h
    split at h
    · exact cutT_spec h
    · obtain ⟨l, h1, h2⟩ := cutT_spec h
      refine ⟨_, h1, fun u => ?_⟩
      rw [lkV_cons]
      split
      · rename_i e; subst e; exact .inl rfl
      · exact h2 u
/-- objects by their names -/
def insO (id : Nat) (o : Ob) : List (Nat × Ob) → List (Nat × Ob)
  | [] => [(id, o)]
  | (y, oy) :: r => match Nat.blt y id with
    | true => (y, oy) :: insO id o r
    | false => (id, o) :: (y, oy) :: r
def insP (id : Nat) (o : Ob) : List (Nat × Ob) → (List (Nat × Ob) → Prop) → Prop
  | [], k => k [(id, o)]
  | (y, oy) :: r, k => match Nat.blt y id with
    | true => insP id o r fun l => k ((y, oy) :: l)
    | false => k ((id, o) :: (y, oy) :: r)
theorem insP_eq (id : Nat) (o : Ob) : ∀ (l : List (Nat × Ob)) (k : List (Nat × Ob) → Prop), insP id o l k = k (insO id o l)
  | [], k => rfl
  | (y, oy) :: r, k => by
    simp only [insP, insO]
    cases Nat.blt y id with
    | true => exact insP_eq id o r _
    | false => rfl
theorem lk_insO (id : Nat) (o : Ob) : ∀ (l : List (Nat × Ob)) (t : Nat), lk (insO id o l) t = lk ((id, o) :: l) t
  | [], t => rfl
  | (y, oy) :: r, t => by
    simp only [insO]
    cases h : Nat.blt y id with
    | true =>
      have hne : y ≠ id := by have := Nat.le_of_ble_eq_true h; omega
      simp only [lk_cons, lk_insO id o r t]
      by_cases e : y = t
      · rw [if_pos e, if_neg (fun e2 => hne (e.trans e2.symm)), if_pos e]
      · rw [if_neg e]
        by_cases e2 : id = t
        · rw [if_pos e2, if_pos e2]
        · rw [if_neg e2, if_neg e2, if_neg e]
    | false => rfl
def cutO (ob0 : List (Nat × Ob)) (ko : List Nat) : List Nat → List (Nat × Ob) → (List (Nat × Ob) → Prop) → Prop
  | _, [], K => K []
  | seen, (id, o) :: r, K => match seenB id seen with
    | true => cutO ob0 ko seen r K
    | false => match Nat.blt id 64 || seenB id ko with
      | true => normOP ob0 ko o fun o' => cutO ob0 ko (id :: seen) r fun l => insP id o' l K
      | false => cutO ob0 ko (id :: seen) r K
theorem cutO_spec {ob0 : List (Nat × Ob)} {ko : List Nat} : ∀ {ob : List (Nat × Ob)} {seen : List Nat} {K : List (Nat × Ob) → Prop}, cutO ob0 ko seen ob K →
    ∃ l, K l ∧ (∀ id, id ∉ seen → lk l id = if (Nat.blt id 64 || seenB id ko) = true then (lk ob id).map (normO ob0 ko) else none) ∧ ∀ id, (Nat.blt id 64 || seenB id ko) = false → lk l id = none
  | [], seen, K, h => ⟨[], h, fun id _ => by simp [lk], fun _ _ => rfl⟩
  | (y, oy) :: r, seen, K, h => by
    simp only [cutO] at h
    split at h
    · rename_i hs
      obtain ⟨l, a1, a2, a3⟩ := cutO_spec h
      refine ⟨l, a1, fun id hid => ?_, a3⟩
      have hne : y ≠ id := fun e => by subst e; exact hid (seenB_iff.1 hs)
      rw [lk_cons y oy r id, if_neg hne]; exact a2 id hid
    · split at h
      · rename_i hky
        rw [normOP_eq] at h
        obtain ⟨l, a1, a2, a3⟩ := cutO_spec h
        rw [insP_eq] at a1
        refine ⟨_, a1, fun id hid => ?_, fun id hid => ?_⟩
        · rw [lk_insO, lk_cons, lk_cons]
          split
          · rename_i e; subst e; rw [if_pos hky]; rfl
          · rename_i hne
            exact a2 id (by simp only [List.mem_cons, not_or]; exact ⟨Ne.symm hne, hid⟩)
        · rw [lk_insO, lk_cons, if_neg (fun e => by subst e; rw [hky] at hid; cases hid)]; exact a3 id hid
      · rename_i hky
        obtain ⟨l, a1, a2, a3⟩ := cutO_spec h
        refine ⟨_, a1, fun id hid => ?_, a3⟩
        by_cases e : y = id
        · subst e; rw [hky]; exact a3 _ hky
        · rw [lk_cons y oy r id, if_neg e]
          exact a2 id (by simp only [List.mem_cons, not_or]; exact ⟨Ne.symm e, hid⟩)
/-- nil slices made one's own: a slot's, a cell's -/
inductive Gr where
  | slot (t n : Nat)
  | cell (b j n : Nat)
def genP (old : Option Ob) (k : Nat → Prop) : Prop := match old with
  | none => k 0
  | some (.box g _) => k (g + 1)
  | some (.arr g _ _ _) => k (g + 1)
theorem genP_spec {old : Option Ob} {k : Nat → Prop} (h : genP old k) : ∃ g, (∀ o, old = some o → o.gen < g) ∧ k g := by
  unfold genP at h
  split at h
  · exact ⟨0, fun o e => (by cases e), h⟩
  · exact ⟨_, fun o e => (by cases e; exact Nat.lt_succ_self _), h⟩
  · exact ⟨_, fun o e => (by cases e; exact Nat.lt_succ_self _), h⟩
def setP (l : List V) (j : Nat) (v : V) (k : List V → Prop) : Prop := match l, j with
  | [], _ => k []
  | _ :: xs, 0 => k (v :: xs)
  | x :: xs, j + 1 => setP xs j v fun ys => k (x :: ys)
theorem setP_eq (l : List V) (j : Nat) (v : V) (k : List V → Prop) : setP l j v k = k (l.set j v) := by
  induction l generalizing j k with
  | nil => rfl
  | cons x xs ih => cases j with
    | zero => rfl
    | succ j => simp only [setP, ih, List.set_cons_succ]
/-- the name of an object that a cell's nil becomes -/
def cellId (b j : Nat) : Nat := 100000 + 64 * b + j
def growP : List Gr → St → (St → Prop) → Prop
  | [], s, K => K s
  | .slot t n :: r, s, K => match s.V t with
    | .nil => genP (s.O (64 + t)) fun g => growP r ((s.put t (.own (64 + t) g)).putO (64 + t) (.arr g false n [])) K
    | _ => growP r s K
  | .cell b j n :: r, s, K => match s.O b with
    | some (.box gb cells) => match cells[j]? with
      | some .nil => genP (s.O (cellId b j)) fun g => setP cells j (.own (cellId b j) g) fun cells' => match Nat.beq (cellId b j) b with
        | true => False
        | false => growP r ((s.putO (cellId b j) (.arr g false n [])).putO b (.box gb cells')) K
      | _ => growP r s K
    | _ => growP r s K
theorem RG.redesc {E : Ent} {G : Gh} {s : St} {a : Act} {w : World} (h : RG E G s a w) {t : Nat} {p : V} (hv : RV G w s.O p (a.tmps.getD t undef)) : RG E G (s.put t p) a w where
  nt := h.nt
  df := h.df
  tm u := by
    rw [St.V_put]
    split
    · rename_i e; subst e; exact hv
    · exact h.tm u
  ob := h.ob
  fr := h.fr
  bxs := h.bxs
theorem growP_ok {E : Ent} {a : Act} {w : World} {K : St → Prop} : ∀ {r : List Gr} {s : St} {G : Gh}, RG E G s a w → growP r s K → ∃ s' G', K s' ∧ RG E G' s' a w
  | [], s, G, hR, h => ⟨s, G, h, hR⟩
  | .slot t n :: r, s, G, hR, h => by
    simp only [growP] at h
    split at h
    · rename_i e
      obtain ⟨g, hg, h⟩ := genP_spec h
      have hid : E.bx (64 + t) = none := by cases e : E.bx (64 + t) with | none => rfl | some b => have := (hR.fr.bx _ b e).1; omega
      have h1 : RG E _ (s.putO (64 + t) (.arr g false n [])) a w := nilG_rg hR hid hg
      have hv := hR.tm t
      rw [e] at hv
      have h2 := h1.redesc (t := t) (p := .own (64 + t) g) (by rw [hv.nil_inv]; exact nilOwn (by simp [nilG, upd_same]) (by rw [St.O_putO, if_pos rfl]))
      exact growP_ok h2 h
    · exact growP_ok hR h
  | .cell b j n :: r, s, G, hR, h => by
    simp only [growP] at h
    split at h
    · rename_i gb cells hb
      split at h
      · rename_i hj
        obtain ⟨g, hg, h⟩ := genP_spec h
        rw [setP_eq] at h
        split at h
        · exact h.elim
        · rename_i hne
          have hne := Nat.ne_of_beq_eq_false hne
          have hid : E.bx (cellId b j) = none := by cases e : E.bx (cellId b j) with | none => rfl | some b' => have := (hR.fr.bx _ b' e).1; simp only [cellId] at this; omega
          have h1 : RG E _ (s.putO (cellId b j) (.arr g false n [])) a w := nilG_rg hR hid hg
          have hb1 : (s.putO (cellId b j) (.arr g false n [])).O b = some (.box gb cells) := by rw [St.O_putO, if_neg hne]; exact hb
          have hO2 : ((s.putO (cellId b j) (.arr g false n [])).putO b (.box gb (cells.set j (.own (cellId b j) g)))).O (cellId b j) = some (.arr g false n []) := by
            rw [St.O_putO, if_neg (Ne.symm hne), St.O_putO, if_pos rfl]
          have hg2 : (Ob.box gb cells).gen < (Ob.box gb (cells.set j (.own (cellId b j) g))).gen ∨ (Ob.box gb cells).gen = (Ob.box gb (cells.set j (.own (cellId b j) g))).gen ∧ (Ob.box gb cells).sig = (Ob.box gb (cells.set j (.own (cellId b j) g))).sig := .inr ⟨rfl, rfl⟩
          have hle := sam_le (G := nilG G (cellId b j)) (w := w) hb1 hg2
          have h2 := sam_rg h1 hb1 (.inr ⟨_, _, rfl⟩) hg2 (by
            cases h1.ob b _ hb1 with
            | box _ _ cs T hh hw hc =>
              refine .box _ _ cs T hh hw ⟨by rw [hc.1]; simp, fun i p hi => ?_⟩
              rw [List.getElem?_set] at hi
              split at hi
              · rename_i e
                subst e
                split at hi
                · cases hi
                  obtain ⟨c, h3, h4⟩ := hc.2 _ _ hj
                  refine ⟨c, h3, ?_⟩
                  have h5 : c = .slice none 0 0 := (RV.any _ _ (.cell _ _ h4)).nil_inv
                  subst h5
                  exact .own _ _ _ _ rfl hO2 (Nat.le_refl _) fun m len _ e => by simp [hdr, nilG, upd_same]
                · cases hi
              · obtain ⟨c, h3, h4⟩ := hc.2 _ _ hi
                exact ⟨c, h3, h4.mono hle⟩)
          exact growP_ok h2 h
      · exact growP_ok hR h
    · exact growP_ok hR h
def cutS (lv ko : List Nat) (gr : List Gr) (s : St) (K : St → Prop) : Prop := growP gr s fun s => cutT s.ob ko lv s.tm fun tm => cutO s.ob ko [] s.ob fun ob => K ⟨tm, ob⟩
theorem cutS_ok {lv ko : List Nat} {gr : List Gr} {s : St} {K : St → Prop} {E : Ent} {a : Act} {w : World} (h : cutS lv ko gr s K) (hR : R E s a w) : ∃ s', K s' ∧ R E s' a w := by
  obtain ⟨G, hR⟩ := hR
  obtain ⟨s, G, h, hR⟩ := growP_ok hR h
  obtain ⟨tm, h, hT⟩ := cutT_spec h
  obtain ⟨ob, h, hO, _⟩ := cutO_spec h
  have hO' : ∀ id, (⟨tm, ob⟩ : St).O id = if (Nat.blt id 64 || seenB id ko) = true then (s.O id).map (normO s.ob ko) else none := fun id => hO id (by simp)
  have hok : ∀ {id g : Nat}, okH s.ob ko id g = true → (Nat.blt id 64 || seenB id ko) = true ∧ ∃ o, s.O id = some o ∧ o.gen = g := by
    intro id g h
    unfold okH at h
    split at h
    · rename_i hk
      split at h
      · rename_i o ho; exact ⟨hk, o, ho, Nat.eq_of_beq_eq_true h⟩
      · cases h
    · cases h
  have hsig : ∀ o, (normO s.ob ko o).sig = o.sig := fun o => by cases o <;> rfl
  have hgen : ∀ o, (normO s.ob ko o).gen = 0 := fun o => by cases o <;> rfl
  have nB : ∀ {p : V} {v : Value}, RC G w s.O p v → RC G w (⟨tm, ob⟩ : St).O (normB s.ob ko p) v := by
    intro p v hp
    have h1 := hp.one
    cases hp with
    | dead => exact .dead _ h1
    | sh p v hp =>
      have : normB s.ob ko p = p := by cases hp <;> rfl
      rw [this]; exact .sh _ _ hp
    | own id gen o v _ ho hg hv =>
      simp only [normB]
      split
      · rename_i e
        obtain ⟨hk, o', ho', hg'⟩ := hok e
        rw [ho] at ho'; cases ho'
        exact .own _ _ (normO s.ob ko o) _ h1 (by rw [hO', if_pos hk, ho]; rfl) (Nat.zero_le _) fun n len _ e => hv n len hg'.symm (by rw [← hsig]; exact e)
      · exact .dead _ h1
    | ptr id gen off o v _ ho hg hv =>
      simp only [normB]
      split
      · rename_i e
        obtain ⟨hk, o', ho', hg'⟩ := hok e
        rw [ho] at ho'; cases ho'
        exact .ptr _ _ _ (normO s.ob ko o) _ h1 (by rw [hO', if_pos hk, ho]; rfl) (Nat.zero_le _) fun _ e => hv hg'.symm (by rw [← hsig]; exact e)
      · exact .dead _ h1
    | fn f caps cs c hl hc hh =>
      cases caps with
      | nil => exact .fn _ _ cs c hl hc (fun i p hi => by simp at hi)
      | cons x xs => exact .dead _ h1
  have nC : ∀ {p : V} {v : Value}, RC G w s.O p v → RC G w (⟨tm, ob⟩ : St).O (normC s.ob ko p) v := by
    intro p v hp
    cases p with
    | fn f caps =>
      obtain ⟨cs, h1, h2⟩ := (RV.any _ _ (.cell _ _ hp)).fn_inv
      subst h1
      refine .fn _ _ cs (fun i => cs.getD i undef) (by rw [h2.1]; simp) (fun i hi => ?_) fun i p hi => ?_
      · have : i < cs.size := by rw [h2.1]; simpa using hi
        rw [Array.getElem?_eq_getElem this, Array.getD_eq_getD_getElem?, Array.getElem?_eq_getElem this]; rfl
      · rw [List.getElem?_map] at hi
        cases hq : caps[i]? with
        | none => rw [hq] at hi; cases hi
        | some q =>
          rw [hq] at hi; simp only [Option.map_some, Option.some.injEq] at hi; subst hi
          obtain ⟨c, h3, h4⟩ := h2.2 i q hq
          rw [Array.getD_eq_getD_getElem?, h3]; exact nB h4
    | _ => exact nB hp
  have nCs : ∀ {l : List V} {cs : Array Value}, Cells (RC G w s.O) l cs → Cells (RC G w (⟨tm, ob⟩ : St).O) (l.map (normC s.ob ko)) cs := fun h => h.map_up (q := fun _ => true) (fun _ _ h _ => nC h) (by simp)
  have nA : ∀ {p : V} {v : Value}, RV G w s.O p v → RV G w (⟨tm, ob⟩ : St).O (normA s.ob ko p) v := by
    intro p v hp
    cases p with
    | agg l =>
      obtain ⟨cs, h1, h2⟩ := hp.agg_inv
      subst h1
      exact .any _ _ (.agg _ _ (nCs h2))
    | tup l => exact .dead _
    | elp => exact .dead _
    | rp l =>
      cases hp with
      | any _ _ h => cases h with | cell _ _ h => cases h with | sh _ _ h => cases h
      | rp _ b off h => exact .rp _ _ _ h
    | dead => exact .dead _
    | _ =>
      cases hp with
      | any _ _ h =>
        have h3 := nC (h.not_agg (by simp))
        exact .any _ _ (.cell _ _ h3)
  refine ⟨_, h, G, hR.nt, hR.df, fun t => ?_, fun id o ho => ?_, hR.fr, fun id b hb => ?_⟩
  · rcases hT t with e | e
    · have : (⟨tm, ob⟩ : St).V t = normA s.ob ko (s.V t) := e
      rw [this]; exact nA (hR.tm t)
    · have : (⟨tm, ob⟩ : St).V t = .dead := e
      rw [this]; exact .dead _
  · rw [hO'] at ho
    split at ho
    · cases hs : s.O id with
      | none => rw [hs] at ho; cases ho
      | some o0 =>
        rw [hs] at ho; simp only [Option.map_some, Option.some.injEq] at ho; subst ho
        cases hR.ob id o0 hs with
        | box g cells cs T h1 h2 h3 => exact .box _ _ cs T h1 h2 (nCs h3)
        | nil g sh n hn => exact .nil _ _ _ hn
        | arr g sh n xs cs T lim h1 h2 h3 h4 h5 h6 h7 h8 h9 h10 => exact .arr _ _ _ _ cs T lim h1 h2 h3 h4 h5 h6 h7 h8 h9 h10
    · cases ho
  · obtain ⟨g, c, e⟩ := hR.bxs id b hb
    have : Nat.blt id 64 = true := by simpa using (hR.fr.bx id b hb).1
    rw [hO', if_pos (by rw [this]; rfl), e]
    exact ⟨0, c.map (normC s.ob ko), rfl⟩
/-- a loop: what is so at its head, behind a cut, with so many rounds at most to come -/
theorem loop_of {P : Program} [Env P] (hP : P.follows .mixedOrders = true) {nt : Nat} {c : Code} {s : St} {Q : Exit → St → Prop} (lv js lc ko : List Nat) (gr : List Gr) (I : Nat → St → Prop) (n : Nat) (h0 : cutS lc ko gr s (I n))
    (h : ∀ n s, I n s → ev P nt lv js c s (thenQ (fun s' => cutS lc ko gr s' fun s'' => ∃ m, m < n ∧ I m s'') Q)) : LoopP P nt c s Q := by
  refine ⟨fun E a w hnt hR => ?_⟩
  obtain ⟨s', hI, hR⟩ := cutS_ok h0 hR
  refine wp_loop_ghost (fun n a w => ∃ s, I n s ∧ R E s a w) (fun n a w hn => ?_) n a w ⟨s', hI, hR⟩
  obtain ⟨s, hI, hR⟩ := hn
  refine wp_mono (ev_ok hP (h n s hI) E a w hnt hR) ?_
  rintro e a' w' ⟨s', hq, hR'⟩
  cases e with
  | normal =>
    have hq : cutS lc ko gr s' fun s'' => ∃ m, m < n ∧ I m s'' := hq
    obtain ⟨s'', ⟨m, hm, hI'⟩, hR''⟩ := cutS_ok hq hR'
    exact ⟨m, hm, s'', hI', hR''⟩
  | exit i => exact ⟨s', hq, hR'⟩
  | goto l => exact ⟨s', hq, hR'⟩
  | ret => exact ⟨s', hq, hR'⟩
  | panic c => exact ⟨s', hq, hR'⟩
  | outgrown => exact ⟨s', hq, hR'⟩
/-- ways that meet -/
theorem seq_of {P : Program} [Env P] (hP : P.follows .mixedOrders = true) {nt : Nat} {x y : Code} {s : St} {Q : Exit → St → Prop} (lv js lc ko : List Nat) (gr : List Gr) (J : St → Prop)
    (h : ev P nt lv js x s (thenQ (fun s' => cutS lc ko gr s' J) Q)) (h2 : ∀ s, J s → ev P nt lv js y s Q) : SeqP P nt x y s Q := by
  refine ⟨fun E a w hnt hR => wp_seq (wp_mono (ev_ok hP h E a w hnt hR) ?_)⟩
  rintro e a' w' ⟨s', hq, hR'⟩
  cases e with
  | normal =>
    have hq : cutS lc ko gr s' J := hq
    obtain ⟨s'', hJ, hR''⟩ := cutS_ok hq hR'
    exact ev_ok hP (h2 s'' hJ) E a' w' hnt hR''
  | exit i => exact ⟨s', hq, hR'⟩
  | goto l => exact ⟨s', hq, hR'⟩
  | ret => exact ⟨s', hq, hR'⟩
  | panic c => exact ⟨s', hq, hR'⟩
  | outgrown => exact ⟨s', hq, hR'⟩
theorem branch_of {b : Bool} {p q : Prop} (h1 : b = true → p) (h2 : b = false → q) : branch b p q := by
  cases b
  · exact h2 rfl
  · exact h1 rfl
end Go.PV
