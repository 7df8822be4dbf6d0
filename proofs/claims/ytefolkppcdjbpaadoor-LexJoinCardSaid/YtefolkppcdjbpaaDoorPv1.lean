/- Part of the proof of LexJoin. -/
import Derived.RowKit3
import Derived.Orders
import Derived.Below
namespace Go.PV
open Go Go.RowKit
inductive V where
  | dead
  | int (k : IntKind) (n : Int)
  | bool (b : Bool)
  | str (l : List UInt8)
  | nil
  | nilp
  | nili
  | ifc
  | fn (f : FuncId) (caps : List V)
  | agg (l : List V)
  | tup (l : List V)
  | sl (n : Nat) (xs : List (List V))
  | own (id gen : Nat)
  | ptr (id gen off : Nat)
  | elp (id gen i off : Nat)
  | rp (l : List V)
inductive Ob where
  | box (gen : Nat) (cells : List V)
  | arr (gen : Nat) (sh : Bool) (n : Nat) (xs : List (List V))
def Ob.gen : Ob → Nat
  | .box g _ => g
  | .arr g _ _ _ => g
def Ob.sig : Ob → Option (Nat × Nat)
  | .box _ _ => none
  | .arr _ _ n xs => some (n, xs.length)
structure Own where
  ow : Option Nat
  lim : Option Nat
structure Gh where
  own : Nat → Own
  blk : Nat → Nat
  cap : Nat → Nat
  isnil : Nat → Bool
abbrev Tb := Nat → Option Ob
def Own.below (o : Own) (off : Nat) : Prop := ∀ l, o.lim = some l → off < l
def stab (G : Gh) (w : World) (b off : Nat) (c : Value) : Prop := (G.own b).below off ∧ w.cell? ⟨b, off, none⟩ = some c
inductive Sh (σ : Nat → Nat → Value → Prop) : V → Value → Prop
  | int (k n) : Sh σ (.int k n) (.int k n)
  | bool (b) : Sh σ (.bool b) (.bool b)
  | str (l) : Sh σ (.str l) (.string ⟨l.toArray⟩)
  | nil : Sh σ .nil (.slice none 0 0)
  | nilp : Sh σ .nilp (.pointer none)
  | nili : Sh σ .nili .nilIface
  | ifc (t x) : Sh σ .ifc (.iface t x)
  | fn (f) : Sh σ (.fn f []) (.func (.func f) #[] #[])
  | sl0 (n) (a : Option Addr) (cap : Nat) : Sh σ (.sl n []) (.slice a 0 cap)
  | sl (n xs b off cap) (c : Nat → Nat → Value) (h0 : 0 < n) (hl : ∀ (i : Nat) (x : List V), xs[i]? = some x → x.length = n) (hc : xs.length ≤ cap)
      (hs : ∀ (i : Nat) (x : List V) (j : Nat) (p : V), xs[i]? = some x → x[j]? = some p → σ b (off + i * n + j) (c i j))
      (hh : ∀ (i : Nat) (x : List V) (j : Nat) (p : V), xs[i]? = some x → x[j]? = some p → Sh σ p (c i j)) : Sh σ (.sl n xs) (.slice (some ⟨b, off, none⟩) xs.length cap)
theorem Sh.mono {σ σ' : Nat → Nat → Value → Prop} (h : ∀ b o c, σ b o c → σ' b o c) {p : V} {v : Value} (hp : Sh σ p v) : Sh σ' p v := by
  induction hp with
  | int k n => exact .int k n
  | bool b => exact .bool b
  | str l => exact .str l
  | nil => exact .nil
  | nilp => exact .nilp
  | nili => exact .nili
  | ifc t x => exact .ifc t x
  | fn f => exact .fn f
  | sl0 n a cap => exact .sl0 n a cap
  | sl n xs b off cap c h0 hl hc hs hh ih => exact .sl n xs b off cap c h0 hl hc (fun i x j p hi hj => h _ _ _ (hs i x j p hi hj)) ih
def hdr (G : Gh) (id len : Nat) : Value := if G.isnil id then .slice none 0 0 else .slice (some ⟨G.blk id, 0, none⟩) len (G.cap id)
/-- a cell's value -/
inductive RC (G : Gh) (w : World) (O : Tb) : V → Value → Prop
  | dead (v) (h1 : v.oneCell' = true) : RC G w O .dead v
  | sh (p v) (h : Sh (stab G w) p v) : RC G w O p v
  | own (id gen o v) (h1 : v.oneCell' = true) (ho : O id = some o) (hg : gen ≤ o.gen) (hv : ∀ n len, gen = o.gen → o.sig = some (n, len) → v = hdr G id len) : RC G w O (.own id gen) v
  | ptr (id gen off o v) (h1 : v.oneCell' = true) (ho : O id = some o) (hg : gen ≤ o.gen) (hv : gen = o.gen → o.sig = none → v = .pointer (some ⟨G.blk id, off, none⟩)) : RC G w O (.ptr id gen off) v
  | fn (f caps) (cs : Array Value) (c : Nat → Value) (hl : cs.size = caps.length) (hc : ∀ i : Nat, i < caps.length → cs[i]? = some (c i))
      (hh : ∀ (i : Nat) (p : V), caps[i]? = some p → RC G w O p (c i)) : RC G w O (.fn f caps) (.func (.func f) #[] cs)
def Cells (R : V → Value → Prop) (l : List V) (cs : Array Value) : Prop := cs.size = l.length ∧ ∀ (j : Nat) (p : V), l[j]? = some p → ∃ c, cs[j]? = some c ∧ R p c
inductive RA (G : Gh) (w : World) (O : Tb) : V → Value → Prop
  | cell (p v) (h : RC G w O p v) : RA G w O p v
  | agg (l cs) (h : Cells (RC G w O) l cs) : RA G w O (.agg l) (.agg cs)
inductive RV (G : Gh) (w : World) (O : Tb) : V → Value → Prop
  | dead (v) : RV G w O .dead v
  | any (p v) (h : RA G w O p v) : RV G w O p v
  | tup (l vs) (h : Cells (RA G w O) l vs) : RV G w O (.tup l) (.tuple vs)
  | elp (id gen i off o v) (ho : O id = some o) (hg : gen ≤ o.gen)
      (hv : ∀ n len, gen = o.gen → o.sig = some (n, len) → G.isnil id = false ∧ v = .pointer (some ⟨G.blk id, i * n + off, none⟩)) : RV G w O (.elp id gen i off) v
  | rp (l b off) (h : ∀ (j : Nat) (p : V), l[j]? = some p → ∃ c, stab G w b (off + j) c ∧ Sh (stab G w) p c) : RV G w O (.rp l) (.pointer (some ⟨b, off, none⟩))
/-- an object -/
inductive RO (G : Gh) (w : World) (O : Tb) (id : Nat) : Ob → Prop
  | box (gen cells cs T) (hb : w.heap[G.blk id]? = some (.cells cs T (0, 0))) (hw : G.own (G.blk id) = ⟨some id, some 0⟩) (hc : Cells (RC G w O) cells cs) : RO G w O id (.box gen cells)
  | nil (gen sh n) (hn : G.isnil id = true) : RO G w O id (.arr gen sh n [])
  | arr (gen sh n xs cs T lim) (hn : G.isnil id = false) (hb : w.heap[G.blk id]? = some (.cells cs T (0, 0))) (hw : G.own (G.blk id) = ⟨some id, some lim⟩)
      (h0 : 0 < n) (hl : ∀ (i : Nat) (x : List V), xs[i]? = some x → x.length = n) (hc : xs.length ≤ G.cap id) (hz : G.cap id * n ≤ cs.size) (hs : sh = false → lim = 0) (ht : lim ≤ xs.length * n)
      (hh : ∀ (i : Nat) (x : List V) (j : Nat) (p : V), xs[i]? = some x → x[j]? = some p → ∃ c, cs[i * n + j]? = some c ∧ Sh (stab G w) p c) : RO G w O id (.arr gen sh n xs)
/-- what was known stays known -/
structure Le (G : Gh) (w : World) (O : Tb) (G' : Gh) (w' : World) (O' : Tb) : Prop where
  hs : ∀ b o c, stab G w b o c → stab G' w' b o c
  hk : ∀ id o, O id = some o → ∃ o', O' id = some o' ∧ (o.gen < o'.gen ∨ (o.gen = o'.gen ∧ o.sig = o'.sig ∧ G.blk id = G'.blk id ∧ (o.sig ≠ none → G.cap id = G'.cap id ∧ G.isnil id = G'.isnil id)))
theorem Le.refl {G : Gh} {w : World} {O : Tb} : Le G w O G w O := ⟨fun _ _ _ h => h, fun _ o h => ⟨o, h, .inr ⟨rfl, rfl, rfl, fun _ => ⟨rfl, rfl⟩⟩⟩⟩
section
variable {G G' : Gh} {w w' : World} {O O' : Tb}
theorem RC.mono (h : Le G w O G' w' O') {p : V} {v : Value} (hp : RC G w O p v) : RC G' w' O' p v := by
  induction hp with
  | dead v h1 => exact .dead v h1
  | sh p v hp => exact .sh p v (hp.mono h.hs)
  | own id gen o v h0 ho hg hv =>
    obtain ⟨o', ho', h1 | ⟨h1, h2, h3, h56⟩⟩ := h.hk id o ho
    · exact .own id gen o' v h0 ho' (by omega) (fun n len e _ => by omega)
    · refine .own id gen o' v h0 ho' (by omega) (fun n len e s => ?_)
      obtain ⟨h5, h6⟩ := h56 (by rw [h2.trans s]; simp)
      rw [hv n len (by omega) (h2.trans s)]; simp only [hdr, h3, h5, h6]
  | ptr id gen off o v h0 ho hg hv =>
    obtain ⟨o', ho', h1 | ⟨h1, h2, h3, h56⟩⟩ := h.hk id o ho
    · exact .ptr id gen off o' v h0 ho' (by omega) (fun e _ => by omega)
    · refine .ptr id gen off o' v h0 ho' (by omega) (fun e s => ?_)
      rw [hv (by omega) (h2.trans s), h3]
  | fn f caps cs c hl hc hh ih => exact .fn f caps cs c hl hc ih
theorem Cells.mono {R R' : V → Value → Prop} (h : ∀ p v, R p v → R' p v) {l : List V} {cs : Array Value} (hc : Cells R l cs) : Cells R' l cs :=
  ⟨hc.1, fun j p hp => let ⟨c, h1, h2⟩ := hc.2 j p hp; ⟨c, h1, h _ _ h2⟩⟩
theorem RA.mono (h : Le G w O G' w' O') {p : V} {v : Value} (hp : RA G w O p v) : RA G' w' O' p v := by
  cases hp with
  | cell _ _ hp => exact .cell _ _ (hp.mono h)
  | agg l cs hp => exact .agg l cs (hp.mono fun _ _ => RC.mono h)
theorem RV.mono (h : Le G w O G' w' O') {p : V} {v : Value} (hp : RV G w O p v) : RV G' w' O' p v := by
  cases hp with
  | dead v => exact .dead v
  | any _ _ hp => exact .any _ _ (hp.mono h)
  | tup l vs hp => exact .tup l vs (hp.mono fun _ _ => RA.mono h)
  | elp id gen i off o _ ho hg hv =>
    obtain ⟨o', ho', h1 | ⟨h1, h2, h3, h56⟩⟩ := h.hk id o ho
    · exact .elp id gen i off o' v ho' (by omega) (fun n len e _ => by omega)
    · refine .elp id gen i off o' v ho' (by omega) (fun n len e s => ?_)
      obtain ⟨e1, e2⟩ := hv n len (by omega) (h2.trans s)
      obtain ⟨h5, h6⟩ := h56 (by rw [h2.trans s]; simp)
      exact ⟨by rw [← h6]; exact e1, by rw [e2, h3]⟩
  | rp l b off hp => exact .rp l b off fun j p hj => let ⟨c, h1, h2⟩ := hp j p hj; ⟨c, h.hs _ _ _ h1, h2.mono h.hs⟩
/-- an object that nothing touched -/
theorem RO.mono (h : Le G w O G' w' O') {id : Nat} {o : Ob} (ho : RO G w O id o) (h1 : G.blk id = G'.blk id) (h3 : G.cap id = G'.cap id) (h4 : G.isnil id = G'.isnil id)
    (hb : G.isnil id = false ∨ o.sig = none → w'.heap[G.blk id]? = w.heap[G.blk id]? ∧ G'.own (G.blk id) = G.own (G.blk id)) : RO G' w' O' id o := by
  cases ho with
  | box gen cells cs T b hw hc => obtain ⟨e1, e2⟩ := hb (.inr rfl); exact .box gen cells cs T (by rw [← h1, e1, b]) (by rw [← h1, e2, hw]) (hc.mono fun _ _ => RC.mono h)
  | nil gen sh n hn => exact .nil gen sh n (h4 ▸ hn)
  | arr gen sh n xs cs T lim hn b hw h0 hl hc hz hs ht hh =>
    obtain ⟨e1, e2⟩ := hb (.inl hn)
    refine .arr gen sh n xs cs T lim (h4 ▸ hn) (by rw [← h1, e1, b]) (by rw [← h1, e2, hw]) h0 hl (by rw [← h3]; exact hc) (by rw [← h3]; exact hz) hs ht ?_
    intro i x j p hi hj; obtain ⟨c, hc1, hc2⟩ := hh i x j p hi hj; exact ⟨c, hc1, hc2.mono h.hs⟩
end
/-- tables, as lists -/
def lk {α : Type} : List (Nat × α) → Nat → Option α
  | [], _ => none
  | (k, v) :: r, t => match Nat.beq k t with | true => some v | false => lk r t
theorem lk_cons {α : Type} (k : Nat) (v : α) (r : List (Nat × α)) (t : Nat) : lk ((k, v) :: r) t = if k = t then some v else lk r t := by
  rw [lk]
  cases h : Nat.beq k t with
  | true => rw [if_pos (Nat.eq_of_beq_eq_true h)]
  | false => rw [if_neg (Nat.ne_of_beq_eq_false h)]
def lkV : List (Nat × V) → Nat → V
  | [], _ => .dead
  | (k, v) :: r, t => match Nat.beq k t with | true => v | false => lkV r t
theorem lkV_cons (k : Nat) (v : V) (r : List (Nat × V)) (t : Nat) : lkV ((k, v) :: r) t = if k = t then v else lkV r t := by
  rw [lkV]
  cases h : Nat.beq k t with
  | true => rw [if_pos (Nat.eq_of_beq_eq_true h)]
  | false => rw [if_neg (Nat.ne_of_beq_eq_false h)]
structure St where
  tm : List (Nat × V)
  ob : List (Nat × Ob)
def St.V (s : St) (t : Nat) : V := lkV s.tm t
def St.O (s : St) (t : Nat) : Option Ob := lk s.ob t
def St.put (s : St) (t : Nat) (v : PV.V) : St := ⟨(t, v) :: s.tm, s.ob⟩
def St.putO (s : St) (t : Nat) (o : Ob) : St := ⟨s.tm, (t, o) :: s.ob⟩
theorem St.V_put (s : St) (t u : Nat) (v : PV.V) : (s.put t v).V u = if t = u then v else s.V u := lkV_cons _ _ _ _
theorem St.O_put (s : St) (t u : Nat) (v : PV.V) : (s.put t v).O u = s.O u := rfl
theorem St.V_putO (s : St) (t u : Nat) (o : Ob) : (s.putO t o).V u = s.V u := rfl
theorem St.O_putO (s : St) (t u : Nat) (o : Ob) : (s.putO t o).O u = if t = u then some o else s.O u := lk_cons _ _ _ _
/-- what is so of the world at every call: of the blocks of package variables -/
class Env (P : Program) where
  ng : Nat
  Z : World → Prop
  st : ∀ w w' : World, (∀ k, k < ng → w'.heap[k]? = w.heap[k]?) → Z w → Z w'
/-- what the call began with -/
structure Ent where
  G : Gh
  w : World
  nt : Nat
  bx : Nat → Option Nat
def Ent.ok (E : Ent) (P : Program) [Env P] (nt : Nat) : Prop := E.nt = nt ∧ (∀ k, k < Env.ng P → k < E.w.heap.size ∧ (E.G.own k).ow = none) ∧ Env.Z P E.w
structure Fr (E : Ent) (G : Gh) (w : World) : Prop where
  os : w.os = E.w.os
  tape : w.tape = E.w.tape
  output : w.output = E.w.output
  size : E.w.heap.size ≤ w.heap.size
  st : ∀ b o c, stab E.G E.w b o c → stab G w b o c
  im : ∀ k, k < E.w.heap.size → (E.G.own k).ow = none → G.own k = E.G.own k ∧ w.heap[k]? = E.w.heap[k]?
  bx : ∀ id b, E.bx id = some b → id < 64 ∧ G.blk id = b
theorem Fr.env {P : Program} [Env P] {nt : Nat} {E : Ent} {G : Gh} {w : World} (h : Fr E G w) (ho : E.ok P nt) : (∀ k, k < Env.ng P → k < w.heap.size ∧ (G.own k).ow = none) ∧ Env.Z P w := by
  obtain ⟨_, h1, h2⟩ := ho
  refine ⟨fun k hk => ?_, Env.st E.w w (fun k hk => (h.im k (h1 k hk).1 (h1 k hk).2).2) h2⟩
  obtain ⟨h3, h4⟩ := h1 k hk
  exact ⟨Nat.lt_of_lt_of_le h3 h.size, by rw [(h.im k h3 h4).1]; exact h4⟩
structure RG (E : Ent) (G : Gh) (s : St) (a : Act) (w : World) : Prop where
  nt : a.tmps.size = E.nt
  df : a.defers = []
  tm : ∀ t, RV G w s.O (s.V t) (a.tmps.getD t undef)
  ob : ∀ id o, s.O id = some o → RO G w s.O id o
  fr : Fr E G w
  bxs : ∀ id b, E.bx id = some b → ∃ g c, s.O id = some (.box g c)
def R (E : Ent) (s : St) (a : Act) (w : World) : Prop := ∃ G, RG E G s a w
theorem RV.of_sh {G : Gh} {w : World} {O : Tb} {p : V} {v : Value} (h : Sh (stab G w) p v) : RV G w O p v := .any _ _ (.cell _ _ (.sh _ _ h))
theorem getD_set (l : Array Value) (i j : Nat) (v d : Value) (h : i < l.size) : (l.setIfInBounds i v).getD j d = if i = j then v else l.getD j d := by
  simp only [Array.getD_eq_getD_getElem?, Array.getElem?_setIfInBounds]
  split
  · subst_vars; simp
  · rfl
theorem RG.put {E : Ent} {G : Gh} {s : St} {a : Act} {w : World} (h : RG E G s a w) {d : Nat} {p : V} {v : Value} (hd : d < E.nt) (hv : RV G w s.O p v) : RG E G (s.put d p) (a.put (some d) v) w where
  nt := by simp [Act.put, h.nt]
  df := h.df
  tm t := by
    simp only [Act.put, getD_set _ _ _ _ _ (h.nt ▸ hd), St.V_put]
    split
    · exact hv
    · exact h.tm t
  ob := h.ob
  fr := h.fr
  bxs := h.bxs
/-- the same, with memory turned -/
theorem RG.upd {E : Ent} {G G' : Gh} {s s' : St} {a : Act} {w w' : World} (h : RG E G s a w) (hV : ∀ t, s'.V t = s.V t) (hl : Le G w s.O G' w' s'.O) (ho : ∀ id o, s'.O id = some o → RO G' w' s'.O id o) (hf : Fr E G' w')
    (hb : ∀ id b, E.bx id = some b → s'.O id = s.O id ∨ ∃ g c, s'.O id = some (.box g c)) : RG E G' s' a w' :=
  ⟨h.nt, h.df, fun t => hV t ▸ (h.tm t).mono hl, ho, hf, fun id b e => (hb id b e).elim (fun h2 => by rw [h2]; exact h.bxs id b e) fun h2 => h2⟩
theorem Sh.one {σ : Nat → Nat → Value → Prop} {p : V} {v : Value} (h : Sh σ p v) : v.oneCell' = true := by cases h <;> rfl
theorem RC.one {G : Gh} {w : World} {O : Tb} {p : V} {v : Value} (h : RC G w O p v) : v.oneCell' = true := by
  cases h with
  | dead _ h1 => exact h1
  | sh _ _ h => exact h.one
  | own _ _ _ _ h1 => exact h1
  | ptr _ _ _ _ _ h1 => exact h1
  | fn => rfl
theorem hdr_one (G : Gh) (id len : Nat) : (hdr G id len).oneCell' = true := by unfold hdr; split <;> rfl
theorem stab.lt {G : Gh} {w : World} {b o : Nat} {c : Value} (h : stab G w b o c) : b < w.heap.size := World.block_lt_of_cell? (a := ⟨b, o, none⟩) w h.2
theorem Fr.trans {E : Ent} {G G' : Gh} {w w' : World} (h : Fr E G w) (os : w'.os = w.os) (tape : w'.tape = w.tape) (out : w'.output = w.output) (size : w.heap.size ≤ w'.heap.size)
    (st : ∀ b o c, stab G w b o c → stab G' w' b o c) (im : ∀ k, k < w.heap.size → (G.own k).ow = none → G'.own k = G.own k ∧ w'.heap[k]? = w.heap[k]?) (bx : ∀ id, id < 64 → (∃ b, E.bx id = some b) → G'.blk id = G.blk id) : Fr E G' w' where
  os := os.trans h.os
  tape := tape.trans h.tape
  output := out.trans h.output
  size := Nat.le_trans h.size size
  st b o c hc := st _ _ _ (h.st _ _ _ hc)
  im k hk ho := by
    obtain ⟨h1, h2⟩ := h.im k hk ho
    obtain ⟨h3, h4⟩ := im k (Nat.lt_of_lt_of_le hk h.size) (by rw [h1]; exact ho)
    exact ⟨h3.trans h1, h4.trans h2⟩
  bx id b hb := ⟨(h.bx id b hb).1, (bx id (h.bx id b hb).1 ⟨b, hb⟩).trans (h.bx id b hb).2⟩
end Go.PV
