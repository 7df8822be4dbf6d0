/- Part of the proof of LexJoin. -/
import Derived.Test.YtefolkppcdjbpaaDoorPv6
import Derived.Laws.CopyRow
import Derived.Laws.AppendOwn
import Derived.Great.BuildSlice
namespace Go.PV
open Go Go.RowKit
def upd {α : Type} (f : Nat → α) (i : Nat) (v : α) : Nat → α := fun j => if j = i then v else f j
theorem upd_same {α : Type} (f : Nat → α) (i : Nat) (v : α) : upd f i v i = v := by simp [upd]
theorem upd_ne {α : Type} (f : Nat → α) {i j : Nat} (v : α) (h : j ≠ i) : upd f i v j = f j := by simp [upd, h]
theorem RO.blk_lt {G : Gh} {w : World} {O : Tb} {id : Nat} {o : Ob} (h : RO G w O id o) (hn : G.isnil id = false ∨ o.sig = none) : G.blk id < w.heap.size ∧ (G.own (G.blk id)).ow = some id := by
  cases h with
  | box _ _ cs T hb hw => exact ⟨(Array.getElem?_eq_some_iff.1 hb).1, by rw [hw]⟩
  | nil _ _ n hn' => rcases hn with hn | hn <;> simp_all [Ob.sig]
  | arr _ _ _ _ cs T lim _ hb hw => exact ⟨(Array.getElem?_eq_some_iff.1 hb).1, by rw [hw]⟩
/-- a new block, the object's -/
def newG (G : Gh) (id k cap : Nat) : Gh := { own := upd G.own k ⟨some id, some 0⟩, blk := upd G.blk id k, cap := upd G.cap id cap, isnil := upd G.isnil id false }
theorem cell_push {w w' : World} {o : Obj} (hw : w'.heap = w.heap.push o) {ad : Addr} (h : ad.block < w.heap.size) : w'.cell? ad = w.cell? ad := by
  have : w'.heap[ad.block]? = w.heap[ad.block]? := by rw [hw, Array.getElem?_push, if_neg (by omega)]
  unfold World.cell?; rw [this]
theorem newG_le {G : Gh} {w w' : World} {s : St} {id cap : Nat} {o' : Ob} {b : Obj} (hw : w'.heap = w.heap.push b) (hg : ∀ o, s.O id = some o → o.gen < o'.gen) : Le G w s.O (newG G id w.heap.size cap) w' (s.putO id o').O where
  hs b o c h := by
    have hlt := h.lt
    refine ⟨?_, ?_⟩
    · show ((upd G.own w.heap.size ⟨some id, some 0⟩) b).below o
      rw [upd_ne _ _ (by omega)]; exact h.1
    · rw [cell_push hw (ad := ⟨b, o, none⟩) hlt]; exact h.2
  hk i o hi := by
    rw [St.O_putO]
    by_cases e : id = i
    · subst e; exact ⟨o', if_pos rfl, .inl (hg o hi)⟩
    · refine ⟨o, by rw [if_neg e]; exact hi, .inr ⟨rfl, rfl, ?_, fun _ => ⟨?_, ?_⟩⟩⟩ <;> simp only [newG] <;> rw [upd_ne _ _ (Ne.symm e)]
theorem putO_box {E : Ent} {s : St} {id : Nat} {o' : Ob} (h : E.bx id = none ∨ ∃ g' c', o' = .box g' c') : ∀ i b, E.bx i = some b → (s.putO id o').O i = s.O i ∨ ∃ g c, (s.putO id o').O i = some (.box g c) := by
  intro i b hi
  rw [St.O_putO]
  by_cases e : id = i
  · subst e
    rcases h with h | ⟨g', c', h⟩
    · rw [hi] at h; cases h
    · exact .inr ⟨g', c', by rw [if_pos rfl, h]⟩
  · exact .inl (by rw [if_neg e])
theorem RG.arr_bx {E : Ent} {G : Gh} {s : St} {a : Act} {w : World} (hR : RG E G s a w) {id gen n : Nat} {sh : Bool} {xs : List (List V)} (h : s.O id = some (.arr gen sh n xs)) : E.bx id = none := by
  cases e : E.bx id with
  | none => rfl
  | some b => obtain ⟨g, c, e2⟩ := hR.bxs id b e; rw [h] at e2; cases e2
theorem newG_rg {E : Ent} {G : Gh} {s : St} {a : Act} {w w' : World} {id cap : Nat} {o' : Ob} {b : Obj} (hR : RG E G s a w) (hid : E.bx id = none) (hw : w'.heap = w.heap.push b) (hos : w'.os = w.os) (htp : w'.tape = w.tape) (hout : w'.output = w.output)
    (hg : ∀ o, s.O id = some o → o.gen < o'.gen) (hro : RO (newG G id w.heap.size cap) w' (s.putO id o').O id o') : RG E (newG G id w.heap.size cap) (s.putO id o') a w' := by
  have hle := newG_le (G := G) (s := s) (cap := cap) hw hg
  have hne : ∀ k, k < w.heap.size → w'.heap[k]? = w.heap[k]? := fun k hk => by rw [hw, Array.getElem?_push, if_neg (by omega)]
  refine hR.upd (fun t => rfl) hle (fun i o hi => ?_) (hR.fr.trans hos htp hout (by rw [hw]; simp) hle.hs (fun k hk ho => ⟨by simp only [newG]; rw [upd_ne _ _ (by omega)], hne k hk⟩) (fun i hi hb => by simp only [newG]; rw [upd_ne _ _ (fun e => by subst e; obtain ⟨b, hb⟩ := hb; rw [hid] at hb; cases hb)])) (putO_box (.inl hid))
  rw [St.O_putO] at hi
  split at hi
  · rename_i e; subst e; cases hi; exact hro
  · rename_i e
    have e := Ne.symm e
    refine (hR.ob i o hi).mono hle ?_ ?_ ?_ (fun hn => ?_)
    · simp only [newG]; rw [upd_ne _ _ e]
    · simp only [newG]; rw [upd_ne _ _ e]
    · simp only [newG]; rw [upd_ne _ _ e]
    · have := (hR.ob i o hi).blk_lt hn
      exact ⟨hne _ this.1, by simp only [newG]; rw [upd_ne _ _ (by omega)]⟩
/-- an object's own block, turned; or its bound -/
def limG (G : Gh) (id l : Nat) : Gh := { G with own := upd G.own (G.blk id) ⟨some id, some l⟩ }
theorem limG_le {G : Gh} {s : St} {w w' : World} {id l : Nat} {o o' : Ob} (ho : s.O id = some o)
    (hw : ∀ k, k ≠ G.blk id → w'.heap[k]? = w.heap[k]?) (hst : ∀ off c, stab G w (G.blk id) off c → off < l ∧ w'.cell? ⟨G.blk id, off, none⟩ = some c)
    (hg : o.gen < o'.gen ∨ o.gen = o'.gen ∧ o.sig = o'.sig) : Le G w s.O (limG G id l) w' (s.putO id o').O where
  hs b off c h := by
    by_cases e : b = G.blk id
    · subst e
      obtain ⟨h1, h2⟩ := hst off c h
      refine ⟨fun x hx => ?_, h2⟩
      simp only [limG, upd_same, Option.some.injEq] at hx; omega
    · refine ⟨?_, ?_⟩
      · simp only [limG]; rw [upd_ne _ _ e]; exact h.1
      · rw [World.cell?_of_block (w := w) (a := ⟨b, off, none⟩) (hw b e)]; exact h.2
  hk i oi hi := by
    rw [St.O_putO]
    by_cases e : id = i
    · subst e
      rw [ho] at hi; cases hi
      exact ⟨o', if_pos rfl, hg.elim .inl fun h => .inr ⟨h.1, h.2, rfl, fun _ => ⟨rfl, rfl⟩⟩⟩
    · exact ⟨oi, by rw [if_neg e]; exact hi, .inr ⟨rfl, rfl, rfl, fun _ => ⟨rfl, rfl⟩⟩⟩
theorem limG_rg {E : Ent} {G : Gh} {s : St} {a : Act} {w w' : World} (hR : RG E G s a w) {id l : Nat} {o o' : Ob} (ho : s.O id = some o) (hkd : E.bx id = none ∨ ∃ g' c', o' = .box g' c') (hn : G.isnil id = false ∨ o.sig = none)
    (hw : ∀ k, k ≠ G.blk id → w'.heap[k]? = w.heap[k]?) (hsz : w'.heap.size = w.heap.size) (hos : w'.os = w.os) (htp : w'.tape = w.tape) (hout : w'.output = w.output)
    (hst : ∀ off c, stab G w (G.blk id) off c → off < l ∧ w'.cell? ⟨G.blk id, off, none⟩ = some c)
    (hg : o.gen < o'.gen ∨ o.gen = o'.gen ∧ o.sig = o'.sig) (hro : RO (limG G id l) w' (s.putO id o').O id o') : RG E (limG G id l) (s.putO id o') a w' := by
  have hle := limG_le (G := G) ho hw hst hg
  obtain ⟨hb1, hb2⟩ := (hR.ob id o ho).blk_lt hn
  refine hR.upd (fun t => rfl) hle (fun i oi hi => ?_) (hR.fr.trans hos htp hout (by rw [hsz]; exact Nat.le_refl _) hle.hs (fun k hk hko => ?_) (fun i hi _ => rfl)) (putO_box hkd)
  · rw [St.O_putO] at hi
    split at hi
    · rename_i e; subst e; cases hi; exact hro
    · rename_i e
      refine (hR.ob i oi hi).mono hle rfl rfl rfl (fun hn' => ?_)
      have h2 := (hR.ob i oi hi).blk_lt hn'
      have hne : G.blk i ≠ G.blk id := fun h => e (by have := h2.2; rw [h, hb2] at this; cases this; rfl)
      exact ⟨hw _ hne, by simp only [limG]; rw [upd_ne _ _ hne]⟩
  · have hne : k ≠ G.blk id := fun h => by rw [h, hb2] at hko; cases hko
    exact ⟨by simp only [limG]; rw [upd_ne _ _ hne], hw k hne⟩
/-- the value is one that may be shared -/
def shK (v : V) (k : V → Pr) : Pr := match v with
  | .own id gen => arrK id gen fun _ n xs => .putO id (.arr gen true n xs) (k (.sl n xs))
  | .int i n => k (.int i n)
  | .bool b => k (.bool b)
  | .str l => k (.str l)
  | .nil => k .nil
  | .nilp => k .nilp
  | .nili => k .nili
  | .ifc => k .ifc
  | .sl n xs => k (.sl n xs)
  | .fn f [] => k (.fn f [])
  | _ => .fail
theorem stab_imp_limG {G : Gh} {w : World} {id l : Nat} (h : ∀ l0, (G.own (G.blk id)).lim = some l0 → l0 ≤ l) (hl : ∃ l0, (G.own (G.blk id)).lim = some l0) : ∀ off c, stab G w (G.blk id) off c → off < l ∧ w.cell? ⟨G.blk id, off, none⟩ = some c := by
  intro off c hc
  obtain ⟨l0, hl0⟩ := hl
  exact ⟨Nat.lt_of_lt_of_le (hc.1 l0 hl0) (h l0 hl0), hc.2⟩
theorem RC.sh_of {G : Gh} {w : World} {O : Tb} {p : V} {v : Value} (h : RC G w O p v) (h1 : ∀ f x xs, p ≠ .fn f (x :: xs)) (h2 : p ≠ .dead) (h3 : ∀ i g, p ≠ .own i g) (h4 : ∀ i g o, p ≠ .ptr i g o) : Sh (stab G w) p v := by
  cases h with
  | dead => exact absurd rfl h2
  | sh _ _ h => exact h
  | own => exact absurd rfl (h3 _ _)
  | ptr => exact absurd rfl (h4 _ _ _)
  | fn f caps cs c hl hc hh =>
    cases caps with
    | nil =>
      have : cs = #[] := by simpa using hl
      subst this; exact .fn f
    | cons x xs => exact absurd rfl (h1 f x xs)
theorem sam_le {G : Gh} {w : World} {s : St} {id : Nat} {o o' : Ob} (ho : s.O id = some o) (hg : o.gen < o'.gen ∨ o.gen = o'.gen ∧ o.sig = o'.sig) : Le G w s.O G w (s.putO id o').O where
  hs _ _ _ h := h
  hk i oi hi := by
    rw [St.O_putO]
    by_cases e : id = i
    · subst e
      rw [ho] at hi; cases hi
      exact ⟨o', if_pos rfl, hg.elim .inl fun h => .inr ⟨h.1, h.2, rfl, fun _ => ⟨rfl, rfl⟩⟩⟩
    · exact ⟨oi, by rw [if_neg e]; exact hi, .inr ⟨rfl, rfl, rfl, fun _ => ⟨rfl, rfl⟩⟩⟩
theorem sam_rg {E : Ent} {G : Gh} {s : St} {a : Act} {w : World} (hR : RG E G s a w) {id : Nat} {o o' : Ob} (ho : s.O id = some o) (hkd : E.bx id = none ∨ ∃ g' c', o' = .box g' c') (hg : o.gen < o'.gen ∨ o.gen = o'.gen ∧ o.sig = o'.sig) (hro : RO G w (s.putO id o').O id o') : RG E G (s.putO id o') a w := by
  refine hR.upd (fun t => rfl) (sam_le ho hg) (fun i oi hi => ?_) hR.fr (putO_box hkd)
  rw [St.O_putO] at hi
  split at hi
  · rename_i e; subst e; cases hi; exact hro
  · exact (hR.ob i oi hi).mono (sam_le ho hg) rfl rfl rfl (fun _ => ⟨rfl, rfl⟩)
theorem shK_ok {E : Ent} {G : Gh} {s : St} {a : Act} {w : World} {K : St → Prop} {v : V} {k : V → Pr} {x : Value} (hR : RG E G s a w) (hx : RC G w s.O v x) (h : (shK v k).mwp s K) :
    ∃ G' s' p, RG E G' s' a w ∧ Le G w s.O G' w s'.O ∧ (∀ t, s'.V t = s.V t) ∧ (k p).mwp s' K ∧ Sh (stab G' w) p x := by
  unfold shK at h
  split at h
  · rename_i id gen
    obtain ⟨sh, n, xs, h1, h⟩ := arrK_spec h
    simp only [Pr.mwp] at h
    have hv := (RV.any _ _ (.cell _ _ hx)).own_inv h1
    cases hR.ob id _ h1 with
    | nil _ _ _ hn =>
      refine ⟨G, _, _, sam_rg (o' := .arr gen true n []) hR h1 (.inl (hR.arr_bx h1)) (.inr ⟨rfl, rfl⟩) (.nil _ _ _ hn), sam_le h1 (.inr ⟨rfl, rfl⟩), fun t => rfl, h, ?_⟩
      rw [hv, hdr, hn]; exact .sl0 _ _ _
    | arr _ _ _ _ cs T lim hn hb hw h0 hl hc hz hs ht hh =>
      have hst := stab_imp_limG (G := G) (w := w) (id := id) (l := xs.length * n) (fun l0 e => by rw [hw] at e; cases e; exact ht) ⟨lim, by rw [hw]⟩
      have hle : Le G w s.O (limG G id (xs.length * n)) w (s.putO id (.arr gen true n xs)).O := limG_le h1 (fun _ _ => rfl) hst (.inr ⟨rfl, rfl⟩)
      have hsh : ∀ (i : Nat) (x : List V) (j : Nat) (p : V), xs[i]? = some x → x[j]? = some p → ∃ c, cs[i * n + j]? = some c ∧ Sh (stab (limG G id (xs.length * n)) w) p c :=
        fun i x j p hi hj => let ⟨c, h2, h3⟩ := hh i x j p hi hj; ⟨c, h2, h3.mono hle.hs⟩
      refine ⟨_, _, _, limG_rg (o' := .arr gen true n xs) hR h1 (.inl (hR.arr_bx h1)) (.inl hn) (fun _ _ => rfl) rfl rfl rfl rfl hst (.inr ⟨rfl, rfl⟩) (.arr _ _ _ _ cs T (xs.length * n) hn hb (by simp [limG, upd_same]) h0 hl hc hz (by simp) (Nat.le_refl _) hsh), hle, fun t => rfl, h, ?_⟩
      rw [hv, hdr, hn]
      refine .sl n xs _ 0 _ (fun i j => cs.getD (i * n + j) undef) h0 hl hc (fun i x j p hi hj => ?_) (fun i x j p hi hj => ?_)
      · obtain ⟨c, h2, _⟩ := hsh i x j p hi hj
        have hlt : i * n + j < xs.length * n := mul_at (List.getElem?_eq_some_iff.1 hi).1 (by rw [← hl i x hi]; exact (List.getElem?_eq_some_iff.1 hj).1)
        refine ⟨fun l e => ?_, ?_⟩
        · simp only [limG, upd_same, Option.some.injEq] at e; omega
        · rw [cell_of_row w _ _ cs T _ hb, Nat.zero_add, Array.getD_eq_getD_getElem?, h2]; rfl
      · obtain ⟨c, h2, h3⟩ := hsh i x j p hi hj
        rw [Array.getD_eq_getD_getElem?, h2]; exact h3
  all_goals first
    | exact h.elim
    | exact ⟨G, s, _, hR, .refl, fun _ => rfl, h, hx.sh_of (by simp) (by simp) (by simp) (by simp)⟩
theorem Le.trans {G G1 G2 : Gh} {w w1 w2 : World} {O O1 O2 : Tb} (hle1 : Le G w O G1 w1 O1) (hle2 : Le G1 w1 O1 G2 w2 O2) : Le G w O G2 w2 O2 :=
  ⟨fun b o c hc => hle2.hs _ _ _ (hle1.hs _ _ _ hc), fun i o ho => by
    obtain ⟨o1, e1, h3⟩ := hle1.hk i o ho
    obtain ⟨o2, e2, h4⟩ := hle2.hk i o1 e1
    refine ⟨o2, e2, ?_⟩
    rcases h3 with h3 | ⟨a1, a2, a3, a4⟩ <;> rcases h4 with h4 | ⟨b1, b2, b3, b4⟩
    · exact .inl (by omega)
    · exact .inl (by omega)
    · exact .inl (by omega)
    · exact .inr ⟨a1.trans b1, a2.trans b2, a3.trans b3, fun e => ⟨(a4 e).1.trans (b4 (by rw [← a2]; exact e)).1, (a4 e).2.trans (b4 (by rw [← a2]; exact e)).2⟩⟩⟩
/-- cells of a value -/
def cellsK (v : V) (k : List V → Pr) : Pr := match v with
  | .agg l => k l
  | .dead => .fail
  | .tup _ => .fail
  | .elp _ _ _ _ => .fail
  | .rp _ => .fail
  | v => k [v]
theorem cellsK_ok {G : Gh} {s : St} {w : World} {K : St → Prop} {v : V} {k : List V → Pr} {x : Value} (hx : RV G w s.O v x) (h : (cellsK v k).mwp s K) : ∃ l, (k l).mwp s K ∧ Cells (RC G w s.O) l x.cells := by
  have one : ∀ {p : V}, RV G w s.O p x → (∀ l, p ≠ .agg l) → p ≠ .dead → (∀ l, p ≠ .tup l) → (∀ a b c d, p ≠ .elp a b c d) → (∀ l, p ≠ .rp l) → Cells (RC G w s.O) [p] x.cells := by
    intro p hp h1 h2 h3 h4 h5
    cases hp with
    | dead => exact absurd rfl h2
    | any _ _ hp => cases hp with
      | cell _ _ hp =>
        have : x.cells = #[x] := by have := hp.one; cases x <;> first | rfl | simp [Value.oneCell'] at this
        rw [this]
        refine ⟨rfl, fun j q hj => ?_⟩
        cases j with
        | zero => simp only [List.getElem?_cons_zero, Option.some.injEq] at hj; subst hj; exact ⟨x, rfl, hp⟩
        | succ j => simp at hj
      | agg l _ _ => exact absurd rfl (h1 l)
    | tup l => exact absurd rfl (h3 l)
    | elp => exact absurd rfl (h4 _ _ _ _)
    | rp l => exact absurd rfl (h5 l)
  unfold cellsK at h
  split at h
  · obtain ⟨cs, h1, h2⟩ := hx.agg_inv; subst h1; exact ⟨_, h, h2⟩
  · exact h.elim
  · exact h.elim
  · exact h.elim
  · exact h.elim
  · rename_i h1 h2 h3 h4 h5
    exact ⟨_, h, one hx (fun l e => h1 l e) (fun e => h2 e) (fun l e => h3 l e) (fun a b c d e => h4 a b c d e) (fun l e => h5 l e)⟩
def shLK : List V → (List V → Pr) → Pr
  | [], k => k []
  | v :: vs, k => shK v fun p => shLK vs fun ps => k (p :: ps)
theorem shLK_ok {E : Ent} {a : Act} {w : World} {K : St → Prop} : ∀ {l : List V} {G : Gh} {s : St} {k : List V → Pr} {xs : List Value}, RG E G s a w → l.length = xs.length → (∀ (j : Nat) (p : V), l[j]? = some p → ∃ c, xs[j]? = some c ∧ RC G w s.O p c) → (shLK l k).mwp s K →
    ∃ G' s' ps, RG E G' s' a w ∧ Le G w s.O G' w s'.O ∧ (∀ t, s'.V t = s.V t) ∧ (k ps).mwp s' K ∧ ps.length = xs.length ∧ ∀ (j : Nat) (p : V), ps[j]? = some p → ∃ c, xs[j]? = some c ∧ Sh (stab G' w) p c
  | [], G, s, k, xs, hR, hl, hc, h => ⟨G, s, [], hR, .refl, fun _ => rfl, h, hl, fun j p hj => by simp at hj⟩
  | v :: vs, G, s, k, xs, hR, hl, hc, h => by
    cases xs with
    | nil => simp at hl
    | cons x xs =>
      obtain ⟨c, h1, h2⟩ := hc 0 v rfl
      simp only [List.getElem?_cons_zero, Option.some.injEq] at h1; subst h1
      obtain ⟨G1, s1, p, hR1, hle1, hV1, h, hp⟩ := shK_ok hR h2 h
      obtain ⟨G2, s2, ps, hR2, hle2, hV2, h, hl2, hps⟩ := shLK_ok (xs := xs) hR1 (by simpa using hl) (fun j p hj => by
        obtain ⟨c, h3, h4⟩ := hc (j + 1) p (by simpa using hj)
        exact ⟨c, by simpa using h3, h4.mono hle1⟩) h
      refine ⟨G2, s2, p :: ps, hR2, ?_, fun t => (hV2 t).trans (hV1 t), h, by simp [hl2], fun j q hj => ?_⟩
      · exact hle1.trans hle2
      · cases j with
        | zero => simp only [List.getElem?_cons_zero, Option.some.injEq] at hj; subst hj; exact ⟨x, rfl, hp.mono hle2.hs⟩
        | succ j => obtain ⟨c, h3, h4⟩ := hps j q (by simpa using hj); exact ⟨c, by simpa using h3, h4⟩
end Go.PV
