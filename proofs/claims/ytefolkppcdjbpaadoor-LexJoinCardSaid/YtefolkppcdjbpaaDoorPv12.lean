/- Part of the proof of LexJoin. -/
import Derived.Test.YtefolkppcdjbpaaDoorPv11
namespace Go.PV
open Go Go.RowKit
/-! names of objects: a call's own (a place in a list, time 0) and the caller's -/
abbrev Ids := List (Nat × Nat)
def renB (ids : Ids) : V → V
  | .ptr k _ off => match ids[k]? with
    | some (id, g) => .ptr id g off
    | none => .dead
  | .own k _ => match ids[k]? with
    | some (id, g) => .own id g
    | none => .dead
  | v => v
def renC (ids : Ids) : V → V
  | .fn f cs => .fn f (cs.map (renB ids))
  | v => renB ids v
def renA (ids : Ids) : V → V
  | .agg l => .agg (l.map (renC ids))
  | v => renC ids v
def okB (m : Nat) : V → Bool
  | .ptr k g _ => Nat.blt k m && Nat.beq g 0
  | .own k g => Nat.blt k m && Nat.beq g 0
  | .fn _ cs => cs.isEmpty
  | .agg _ => false
  | .tup _ => false
  | .elp _ _ _ _ => false
  | .rp _ => false
  | _ => true
def okC (m : Nat) : V → Bool
  | .fn _ cs => cs.all (okB m)
  | v => okB m v
def okA (m : Nat) : V → Bool
  | .agg l => l.all (okC m)
  | v => okC m v
def renO (ids : Ids) (g : Nat) : Ob → Ob
  | .box _ cells => .box g (cells.map (renC ids))
  | .arr _ sh n xs => .arr g sh n xs
def okO (m : Nat) : Ob → Bool
  | .box g cells => Nat.beq g 0 && cells.all (okC m)
  | .arr g _ _ _ => Nat.beq g 0
def tbl (os : List Ob) : Tb := fun k => os[k]?
/-- the table has the objects, under their names -/
def Named (ids : Ids) (os : List Ob) (O : Tb) : Prop := ids.length = os.length ∧ ∀ (k : Nat) (o : Ob) (id g : Nat), os[k]? = some o → ids[k]? = some (id, g) → O id = some (renO ids g o)
def Dist (ids : Ids) : Prop := ∀ (i j : Nat) (a b : Nat × Nat), ids[i]? = some a → ids[j]? = some b → a.1 = b.1 → i = j
def find (ids : Ids) (id : Nat) : Option Nat := ids.findIdx? fun p => Nat.beq p.1 id
theorem find_some {ids : Ids} {id k : Nat} (h : find ids id = some k) : ∃ g, ids[k]? = some (id, g) := by
  unfold find at h
  obtain ⟨hk, h1, _⟩ := List.findIdx?_eq_some_iff_getElem.1 h
  refine ⟨ids[k].2, ?_⟩
  rw [List.getElem?_eq_getElem hk]
  have := Nat.eq_of_beq_eq_true h1
  rw [← this]
theorem find_of {ids : Ids} {id k g : Nat} (hd : Dist ids) (h : ids[k]? = some (id, g)) : find ids id = some k := by
  cases hf : find ids id with
  | some j => obtain ⟨g', h1⟩ := find_some hf; rw [hd j k _ _ h1 h rfl]
  | none =>
    unfold find at hf
    rw [List.findIdx?_eq_none_iff] at hf
    have := hf _ (List.mem_of_getElem? h)
    simp at this
/-- the call's own ghost -/
def downG (ids : Ids) (G : Gh) : Gh where
  own b := ⟨(G.own b).ow.bind (find ids), (G.own b).lim⟩
  blk k := G.blk (ids.getD k (0, 0)).1
  cap k := G.cap (ids.getD k (0, 0)).1
  isnil k := G.isnil (ids.getD k (0, 0)).1
theorem stab_down {ids : Ids} {G : Gh} {w : World} : stab (downG ids G) w = stab G w := rfl
theorem getD_ids {ids : Ids} {k id g : Nat} (h : ids[k]? = some (id, g)) : (ids.getD k (0, 0)).1 = id := by rw [List.getD_eq_getElem?_getD, h]; rfl
theorem hdr_down {ids : Ids} {G : Gh} {k id g len : Nat} (h : ids[k]? = some (id, g)) : hdr (downG ids G) k len = hdr G id len := by
  unfold hdr downG; simp only [getD_ids h]
section
variable {ids : Ids} {os : List Ob} {O : Tb} {G : Gh} {w : World}
theorem renO_gen (ids : Ids) (g : Nat) (o : Ob) : (renO ids g o).gen = g := by cases o <;> rfl
theorem renO_sig (ids : Ids) (g : Nat) (o : Ob) : (renO ids g o).sig = o.sig := by cases o <;> rfl
theorem okO_gen {m : Nat} {o : Ob} (h : okO m o = true) : o.gen = 0 := by
  cases o <;> simp only [okO, Bool.and_eq_true] at h
  · exact Nat.eq_of_beq_eq_true h.1
  · exact Nat.eq_of_beq_eq_true h
theorem Named.at_ (hN : Named ids os O) (hok : ∀ o ∈ os, okO os.length o = true) {k : Nat} (hk : k < os.length) : ∃ id g o, ids[k]? = some (id, g) ∧ os[k]? = some o ∧ O id = some (renO ids g o) ∧ o.gen = 0 := by
  have hk' : k < ids.length := by rw [hN.1]; exact hk
  have h1 := List.getElem?_eq_getElem hk'
  have h2 := List.getElem?_eq_getElem hk
  exact ⟨ids[k].1, ids[k].2, os[k], h1, h2, hN.2 k _ _ _ h2 h1, okO_gen (hok _ (List.getElem_mem hk))⟩
theorem RA.not_agg {p : V} {v : Value} (h : RA G w O p v) (hn : ∀ l, p ≠ .agg l) : RC G w O p v := by
  cases h with
  | cell _ _ h => exact h
  | agg l => exact absurd rfl (hn l)
theorem renC_agg {ids : Ids} {p : V} (h : ∀ l, p ≠ .agg l) : ∀ l, renC ids p ≠ .agg l := by
  intro l e
  cases p <;> simp only [renC, renB] at e <;> first
    | exact absurd rfl (h _)
    | (cases e; done)
    | (split at e <;> cases e)
theorem downB (hN : Named ids os O) (hok : ∀ o ∈ os, okO os.length o = true) {p : V} {v : Value} (h : RC G w O (renB ids p) v) (hp : okB os.length p = true) : RC (downG ids G) w (tbl os) p v := by
  have at_ := fun {k} => Named.at_ hN hok (k := k)
  cases p with
  | ptr k g off =>
    simp only [okB, Bool.and_eq_true] at hp
    obtain ⟨id, g', o, h1, h2, h3, h4⟩ := at_ (show k < os.length by simpa using hp.1)
    have hg := Nat.eq_of_beq_eq_true hp.2; subst hg
    simp only [renB, h1] at h
    have e0 := h.one
    refine .ptr _ _ _ o _ e0 h2 (Nat.zero_le _) fun _ hs => ?_
    have : (downG ids G).blk k = G.blk id := by simp only [downG, getD_ids h1]
    rw [this]
    cases h with
    | sh _ _ h => cases h
    | ptr _ _ _ o' _ _ ho _ hv => rw [h3] at ho; cases ho; exact hv (renO_gen _ _ _).symm ((renO_sig _ _ _).trans hs)
  | own k g =>
    simp only [okB, Bool.and_eq_true] at hp
    obtain ⟨id, g', o, h1, h2, h3, h4⟩ := at_ (show k < os.length by simpa using hp.1)
    have hg := Nat.eq_of_beq_eq_true hp.2; subst hg
    simp only [renB, h1] at h
    have e0 := h.one
    refine .own _ _ o _ e0 h2 (Nat.zero_le _) fun n len _ hs => ?_
    rw [hdr_down h1]
    cases h with
    | sh _ _ h => cases h
    | own _ _ o' _ _ ho _ hv => rw [h3] at ho; cases ho; exact hv n len (renO_gen _ _ _).symm ((renO_sig _ _ _).trans hs)
  | fn f cs =>
    have : cs = [] := by simpa [okB] using hp
    subst this
    simp only [renB] at h
    cases h with
    | sh _ _ h => exact .sh _ _ h
    | fn _ _ cs c hl hc hh => exact .fn _ _ cs c hl hc (fun i p hi => by simp at hi)
  | agg l => simp [okB] at hp
  | tup l => simp [okB] at hp
  | elp => simp [okB] at hp
  | rp l => simp [okB] at hp
  | dead => exact .dead _ h.one
  | _ =>
    simp only [renB] at h
    cases h with
    | sh _ _ h => exact .sh _ _ h
theorem downC (hN : Named ids os O) (hok : ∀ o ∈ os, okO os.length o = true) {p : V} {v : Value} (h : RC G w O (renC ids p) v) (hp : okC os.length p = true) : RC (downG ids G) w (tbl os) p v := by
  cases p with
  | fn f cs =>
    simp only [renC] at h
    simp only [okC] at hp
    obtain ⟨d, h1, h2⟩ := (RV.any _ _ (.cell _ _ h)).fn_inv
    subst h1
    refine .fn f cs d (fun i => d.getD i undef) (by rw [h2.1]; simp) (fun i hi => ?_) (fun i p hi => ?_)
    · have : i < d.size := by rw [h2.1]; simpa using hi
      rw [Array.getElem?_eq_getElem this, Array.getD_eq_getD_getElem?, Array.getElem?_eq_getElem this]; rfl
    · obtain ⟨c, h3, h4⟩ := h2.2 i (renB ids p) (by rw [List.getElem?_map, hi]; rfl)
      rw [Array.getD_eq_getD_getElem?, h3]
      exact downB hN hok h4 (List.all_eq_true.1 hp p (List.mem_of_getElem? hi))
  | _ => exact downB hN hok h hp
theorem Cells.map_down {R R' : V → Value → Prop} {f : V → V} {q : V → Bool} (hr : ∀ p v, R (f p) v → q p = true → R' p v) {l : List V} {cs : Array Value} (h : Cells R (l.map f) cs) (hq : l.all q = true) : Cells R' l cs := by
  refine ⟨by rw [h.1]; simp, fun j p hj => ?_⟩
  obtain ⟨c, h1, h2⟩ := h.2 j (f p) (by rw [List.getElem?_map, hj]; rfl)
  exact ⟨c, h1, hr _ _ h2 (List.all_eq_true.1 hq p (List.mem_of_getElem? hj))⟩
theorem downA (hN : Named ids os O) (hok : ∀ o ∈ os, okO os.length o = true) {p : V} {v : Value} (h : RA G w O (renA ids p) v) (hp : okA os.length p = true) : RA (downG ids G) w (tbl os) p v := by
  cases p with
  | agg l =>
    simp only [renA] at h
    obtain ⟨cs, h1, h2⟩ := (RV.any _ _ h).agg_inv
    subst h1
    exact .agg _ _ (h2.map_down (q := okC os.length) (fun _ _ => downC hN hok) hp)
  | _ => exact .cell _ _ (downC hN hok (RA.not_agg h (renC_agg (by simp))) hp)
theorem downO (hN : Named ids os O) (hd : Dist ids) (hok : ∀ o ∈ os, okO os.length o = true) {k id g : Nat} {o : Ob} (hk : os[k]? = some o) (hi : ids[k]? = some (id, g)) (h : RO G w O id (renO ids g o)) : RO (downG ids G) w (tbl os) k o := by
  have hblk : (downG ids G).blk k = G.blk id := by simp only [downG, getD_ids hi]
  have hown : ∀ l, G.own (G.blk id) = ⟨some id, l⟩ → (downG ids G).own ((downG ids G).blk k) = ⟨some k, l⟩ := by
    intro l e; rw [hblk]; simp only [downG, e, Option.bind_some, find_of hd hi]
  have ho := hok o (List.mem_of_getElem? hk)
  cases o with
  | box g0 cells =>
    simp only [okO, Bool.and_eq_true] at ho
    cases h with
    | box _ _ cs T hb hw hc => exact .box _ _ cs T (by rw [hblk]; exact hb) (hown _ hw) (hc.map_down (q := okC os.length) (fun _ _ => downC hN hok) ho.2)
  | arr g0 sh n xs =>
    have hcap : (downG ids G).cap k = G.cap id := by simp only [downG, getD_ids hi]
    have hnil : (downG ids G).isnil k = G.isnil id := by simp only [downG, getD_ids hi]
    cases h with
    | nil _ _ _ hn => exact .nil _ _ _ (by rw [hnil]; exact hn)
    | arr _ _ _ _ cs T lim hn hb hw h0 hl hc hz hs ht hh => exact .arr _ _ _ _ cs T lim (by rw [hnil]; exact hn) (by rw [hblk]; exact hb) (hown _ hw) h0 hl (by rw [hcap]; exact hc) (by rw [hcap]; exact hz) hs ht hh
end
/-- the caller's ghost, behind the call -/
def upG (ids : Ids) (sz : Nat) (G Gc G' : Gh) : Gh where
  own b := if b < sz ∧ (Gc.own b).ow = none then G.own b else ⟨(G'.own b).ow.bind fun k => (ids[k]?).map (·.1), (G'.own b).lim⟩
  blk id := match find ids id with | some k => G'.blk k | none => G.blk id
  cap id := match find ids id with | some k => G'.cap k | none => G.cap id
  isnil id := match find ids id with | some k => G'.isnil k | none => G.isnil id
section
variable {ids : Ids} {os : List Ob} {O : Tb} {G Gn : Gh} {w : World}
/-- up: the same, from the call's names to the caller's -/
theorem upB (hN : Named ids os O) (hs : ∀ b o c, stab G w b o c → stab Gn w b o c) (hb : ∀ (k id g : Nat), ids[k]? = some (id, g) → Gn.blk id = G.blk k ∧ Gn.cap id = G.cap k ∧ Gn.isnil id = G.isnil k) (hok : ∀ o ∈ os, okO os.length o = true) {p : V} {v : Value} (h : RC G w (tbl os) p v) (hp : okB os.length p = true) : RC Gn w O (renB ids p) v := by
  have at_ := fun {k} => Named.at_ hN hok (k := k)
  cases p with
  | ptr k g off =>
    simp only [okB, Bool.and_eq_true] at hp
    obtain ⟨id, g', o, h1, h2, h3, h4⟩ := at_ (show k < os.length by simpa using hp.1)
    have hg := Nat.eq_of_beq_eq_true hp.2; subst hg
    simp only [renB, h1]
    have e0 := h.one
    refine .ptr _ _ _ _ _ e0 h3 (by rw [renO_gen]; exact Nat.le_refl _) fun _ e => ?_
    rw [(hb k id g' h1).1]
    cases h with
    | sh _ _ h => cases h
    | ptr _ _ _ o' _ _ ho _ hv => rw [show tbl os k = some o from h2] at ho; cases ho; exact hv h4.symm ((renO_sig ids g' _).symm.trans e)
  | own k g =>
    simp only [okB, Bool.and_eq_true] at hp
    obtain ⟨id, g', o, h1, h2, h3, h4⟩ := at_ (show k < os.length by simpa using hp.1)
    have hg := Nat.eq_of_beq_eq_true hp.2; subst hg
    simp only [renB, h1]
    have e0 := h.one
    refine .own _ _ _ _ e0 h3 (by rw [renO_gen]; exact Nat.le_refl _) fun n len _ e => ?_
    obtain ⟨b1, b2, b3⟩ := hb k id g' h1
    have : hdr Gn id len = hdr G k len := by unfold hdr; rw [b1, b2, b3]
    rw [this]
    cases h with
    | sh _ _ h => cases h
    | own _ _ o' _ _ ho _ hv => rw [show tbl os k = some o from h2] at ho; cases ho; exact hv n len h4.symm ((renO_sig ids g' _).symm.trans e)
  | fn f cs =>
    have : cs = [] := by simpa [okB] using hp
    subst this
    simp only [renB]
    cases h with
    | sh _ _ h => exact .sh _ _ (h.mono hs)
    | fn _ _ cs c hl hc hh => exact .fn _ _ cs c hl hc (fun i p hi => by simp at hi)
  | agg l => simp [okB] at hp
  | tup l => simp [okB] at hp
  | elp => simp [okB] at hp
  | rp l => simp [okB] at hp
  | dead => exact .dead _ h.one
  | _ =>
    simp only [renB]
    cases h with
    | sh _ _ h => exact .sh _ _ (h.mono hs)
theorem upC (hN : Named ids os O) (hs : ∀ b o c, stab G w b o c → stab Gn w b o c) (hb : ∀ (k id g : Nat), ids[k]? = some (id, g) → Gn.blk id = G.blk k ∧ Gn.cap id = G.cap k ∧ Gn.isnil id = G.isnil k) (hok : ∀ o ∈ os, okO os.length o = true) {p : V} {v : Value} (h : RC G w (tbl os) p v) (hp : okC os.length p = true) : RC Gn w O (renC ids p) v := by
  cases p with
  | fn f cs =>
    simp only [renC]
    simp only [okC] at hp
    obtain ⟨d, h1, h2⟩ := (RV.any _ _ (.cell _ _ h)).fn_inv
    subst h1
    refine .fn f _ d (fun i => d.getD i undef) (by rw [h2.1]; simp) (fun i hi => ?_) (fun i p hi => ?_)
    · have : i < d.size := by rw [h2.1]; simpa using hi
      rw [Array.getElem?_eq_getElem this, Array.getD_eq_getD_getElem?, Array.getElem?_eq_getElem this]; rfl
    · rw [List.getElem?_map] at hi
      cases hq : cs[i]? with
      | none => rw [hq] at hi; cases hi
      | some q =>
        rw [hq] at hi; simp only [Option.map_some, Option.some.injEq] at hi; subst hi
        obtain ⟨c, h3, h4⟩ := h2.2 i q hq
        rw [Array.getD_eq_getD_getElem?, h3]
        exact upB hN hs hb hok h4 (List.all_eq_true.1 hp q (List.mem_of_getElem? hq))
  | _ => exact upB hN hs hb hok h hp
theorem Cells.map_up {R R' : V → Value → Prop} {f : V → V} {q : V → Bool} (hr : ∀ p v, R p v → q p = true → R' (f p) v) {l : List V} {cs : Array Value} (h : Cells R l cs) (hq : l.all q = true) : Cells R' (l.map f) cs := by
  refine ⟨by rw [h.1]; simp, fun j p hj => ?_⟩
  rw [List.getElem?_map] at hj
  cases hl : l[j]? with
  | none => rw [hl] at hj; cases hj
  | some q' =>
    rw [hl] at hj; simp only [Option.map_some, Option.some.injEq] at hj; subst hj
    obtain ⟨c, h1, h2⟩ := h.2 j q' hl
    exact ⟨c, h1, hr _ _ h2 (List.all_eq_true.1 hq q' (List.mem_of_getElem? hl))⟩
theorem upA (hN : Named ids os O) (hs : ∀ b o c, stab G w b o c → stab Gn w b o c) (hb : ∀ (k id g : Nat), ids[k]? = some (id, g) → Gn.blk id = G.blk k ∧ Gn.cap id = G.cap k ∧ Gn.isnil id = G.isnil k) (hok : ∀ o ∈ os, okO os.length o = true) {p : V} {v : Value} (h : RA G w (tbl os) p v) (hp : okA os.length p = true) : RA Gn w O (renA ids p) v := by
  cases p with
  | agg l =>
    simp only [renA]
    obtain ⟨cs, h1, h2⟩ := (RV.any _ _ h).agg_inv
    subst h1
    exact .agg _ _ (h2.map_up (q := okC os.length) (fun _ _ => upC hN hs hb hok) hp)
  | _ => exact .cell _ _ (upC hN hs hb hok (RA.not_agg h (by simp)) hp)
theorem upO (hN : Named ids os O) (hs : ∀ b o c, stab G w b o c → stab Gn w b o c) (hb : ∀ (k id g : Nat), ids[k]? = some (id, g) → Gn.blk id = G.blk k ∧ Gn.cap id = G.cap k ∧ Gn.isnil id = G.isnil k) (hok : ∀ o ∈ os, okO os.length o = true)
    {k id g : Nat} {o : Ob} (hk : os[k]? = some o) (hi : ids[k]? = some (id, g)) (hw' : ∀ l, G.own (G.blk k) = ⟨some k, l⟩ → Gn.own (G.blk k) = ⟨some id, l⟩) (h : RO G w (tbl os) k o) : RO Gn w O id (renO ids g o) := by
  obtain ⟨b1, b2, b3⟩ := hb k id g hi
  have ho := hok o (List.mem_of_getElem? hk)
  cases h with
  | box g0 cells cs T hbk hw hc =>
    simp only [okO, Bool.and_eq_true] at ho
    exact .box _ _ cs T (by rw [b1]; exact hbk) (by rw [b1]; exact hw' _ hw) (hc.map_up (q := okC os.length) (fun _ _ => upC hN hs hb hok) ho.2)
  | nil _ _ _ hn => exact .nil _ _ _ (by rw [b3]; exact hn)
  | arr _ _ _ _ cs T lim hn hbk hw h0 hl hc hz hss ht hh =>
    exact .arr _ _ _ _ cs T lim (by rw [b3]; exact hn) (by rw [b1]; exact hbk) (by rw [b1]; exact hw' _ hw) h0 hl (by rw [b2]; exact hc) (by rw [b2]; exact hz) hss ht (fun i x j p hi hj => let ⟨c, h1, h2⟩ := hh i x j p hi hj; ⟨c, h1, h2.mono hs⟩)
end
end Go.PV
