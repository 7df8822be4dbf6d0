/- Part of the proof. -/
import Derived.RowKit3
import Derived.Orders
import Derived.Below
import Derived.Laws.StructEq
import Derived.Laws.Strings
import Derived.Laws.Rows
import Derived.Laws.Cells
import Derived.Laws.Small
import Derived.WideLaws
import Derived.Laws.Strings2
import Derived.Laws.BytesArg
import Derived.Laws.Tables
import Derived.Laws.CopyRow
import Derived.Laws.AppendOwn
import Derived.Great.BuildSlice
import Derived.Laws.OwnMore
set_option linter.unusedVariables false
set_option linter.unusedSimpArgs false
namespace Go.PV
open Go Go.RowKit
/-- plain parts of maps -/
inductive Sc where
  | int (k : IntKind) (n : Int)
  | bool (b : Bool)
  | str (l : List UInt8)
inductive MD where
  | s (l : List (List UInt8 × Sc))
  | i (l : List (Int × Sc))
inductive V where
  | dead
  | int (k : IntKind) (n : Int)
  | bool (b : Bool)
  | str (l : List UInt8)
  | nil
  | nilp
  | nili
  | ifc
  | fn (f : FuncId) (caps : List V)
  | agg (l : List V)
  | tup (l : List V)
  | sl (n : Nat) (xs : List (List V))
  | own (id gen : Nat)
  | ptr (id gen off : Nat)
  | elp (id gen i off : Nat)
  | rp (l : List V)
  | mp (id gen : Nat)
  | md (d : MD)
inductive Ob where
  | box (gen : Nat) (cells : List V)
  | arr (gen : Nat) (sh : Bool) (n : Nat) (xs : List (List V))
def Ob.gen : Ob → Nat
  | .box g _ => g
  | .arr g _ _ _ => g
def Ob.sig : Ob → Option (Nat × Nat)
  | .box _ _ => none
  | .arr _ _ n xs => some (n, xs.length)
structure Own where
  ow : Option Nat
  lim : Option Nat
structure Gh where
  own : Nat → Own
  blk : Nat → Nat
  cap : Nat → Nat
  isnil : Nat → Bool
abbrev Tb := Nat → Option Ob
def Own.below (o : Own) (off : Nat) : Prop := ∀ l, o.lim = some l → off < l
def stab (G : Gh) (w : World) (b off : Nat) (c : Value) : Prop := (G.own b).below off ∧ w.cell? ⟨b, off, none⟩ = some c
inductive Sh (σ : Nat → Nat → Value → Prop) : V → Value → Prop
  | int (k n) : Sh σ (.int k n) (.int k n)
  | bool (b) : Sh σ (.bool b) (.bool b)
  | str (l) : Sh σ (.str l) (.string ⟨l.toArray⟩)
  | nil : Sh σ .nil (.slice none 0 0)
  | nilp : Sh σ .nilp (.pointer none)
  | nili : Sh σ .nili .nilIface
  | ifc (t x) : Sh σ .ifc (.iface t x)
  | fn (f) : Sh σ (.fn f []) (.func (.func f) #[] #[])
  | sl0 (n) (a : Option Addr) (cap : Nat) : Sh σ (.sl n []) (.slice a 0 cap)
  | sl (n xs b off cap) (c : Nat → Nat → Value) (h0 : 0 < n) (hl : ∀ (i : Nat) (x : List V), xs[i]? = some x → x.length = n) (hc : xs.length ≤ cap)
      (hs : ∀ (i : Nat) (x : List V) (j : Nat) (p : V), xs[i]? = some x → x[j]? = some p → σ b (off + i * n + j) (c i j))
      (hh : ∀ (i : Nat) (x : List V) (j : Nat) (p : V), xs[i]? = some x → x[j]? = some p → Sh σ p (c i j)) : Sh σ (.sl n xs) (.slice (some ⟨b, off, none⟩) xs.length cap)
theorem Sh.mono {σ σ' : Nat → Nat → Value → Prop} (h : ∀ b o c, σ b o c → σ' b o c) {p : V} {v : Value} (hp : Sh σ p v) : Sh σ' p v := by
  induction hp with
  | int k n => exact .int k n
  | bool b => exact .bool b
  | str l => exact .str l
  | nil => exact .nil
  | nilp => exact .nilp
  | nili => exact .nili
  | ifc t x => exact .ifc t x
  | fn f => exact .fn f
  | sl0 n a cap => exact .sl0 n a cap
  | sl n xs b off cap c h0 hl hc hs hh ih => exact .sl n xs b off cap c h0 hl hc (fun i x j p hi hj => h _ _ _ (hs i x j p hi hj)) ih
def hdr (G : Gh) (id len : Nat) : Value := if G.isnil id then .slice none 0 0 else .slice (some ⟨G.blk id, 0, none⟩) len (G.cap id)
def Sc.vl : Sc → Value
  | .int k n => .int k n
  | .bool b => .bool b
  | .str l => .string ⟨l.toArray⟩
/-- a map's entries -/
def RelL {α : Type} (κ : α → Value) : List (α × Sc) → List MapEntry → Prop
  | [], [] => True
  | (k, v) :: l, e :: es => e.key = κ k ∧ e.val = v.vl ∧ RelL κ l es
  | _, _ => False
abbrev kS (l : List UInt8) : Value := .string ⟨l.toArray⟩
abbrev kI (n : Int) : Value := .int .i64 n
def MapR : MD → Array MapEntry → Prop
  | .s l, es => RelL kS l es.toList
  | .i l, es => RelL kI l es.toList
/-- a cell's value -/
inductive RC (G : Gh) (w : World) (O : Tb) : V → Value → Prop
  | dead (v) (h1 : v.oneCell' = true) : RC G w O .dead v
  | sh (p v) (h : Sh (stab G w) p v) : RC G w O p v
  | own (id gen o v) (h1 : v.oneCell' = true) (ho : O id = some o) (hg : gen ≤ o.gen) (hv : ∀ n len, gen = o.gen → o.sig = some (n, len) → v = hdr G id len) : RC G w O (.own id gen) v
  | ptr (id gen off o v) (h1 : v.oneCell' = true) (ho : O id = some o) (hg : gen ≤ o.gen) (hv : gen = o.gen → o.sig = none → v = .pointer (some ⟨G.blk id, off, none⟩)) : RC G w O (.ptr id gen off) v
  | mp (id gen o v) (h1 : v.oneCell' = true) (ho : O id = some o) (hg : gen ≤ o.gen) (hv : gen = o.gen → o.sig = none → v = .map (some (G.blk id))) : RC G w O (.mp id gen) v
  | fn (f caps) (cs : Array Value) (c : Nat → Value) (hl : cs.size = caps.length) (hc : ∀ i : Nat, i < caps.length → cs[i]? = some (c i))
      (hh : ∀ (i : Nat) (p : V), caps[i]? = some p → RC G w O p (c i)) : RC G w O (.fn f caps) (.func (.func f) #[] cs)
def Cells (R : V → Value → Prop) (l : List V) (cs : Array Value) : Prop := cs.size = l.length ∧ ∀ (j : Nat) (p : V), l[j]? = some p → ∃ c, cs[j]? = some c ∧ R p c
inductive RA (G : Gh) (w : World) (O : Tb) : V → Value → Prop
  | cell (p v) (h : RC G w O p v) : RA G w O p v
  | agg (l cs) (h : Cells (RC G w O) l cs) : RA G w O (.agg l) (.agg cs)
inductive RV (G : Gh) (w : World) (O : Tb) : V → Value → Prop
  | dead (v) : RV G w O .dead v
  | any (p v) (h : RA G w O p v) : RV G w O p v
  | tup (l vs) (h : Cells (RA G w O) l vs) : RV G w O (.tup l) (.tuple vs)
  | elp (id gen i off o v) (ho : O id = some o) (hg : gen ≤ o.gen)
      (hv : ∀ n len, gen = o.gen → o.sig = some (n, len) → G.isnil id = false ∧ v = .pointer (some ⟨G.blk id, i * n + off, none⟩)) : RV G w O (.elp id gen i off) v
  | rp (l b off) (h : ∀ (j : Nat) (p : V), l[j]? = some p → ∃ c, stab G w b (off + j) c ∧ Sh (stab G w) p c) : RV G w O (.rp l) (.pointer (some ⟨b, off, none⟩))
/-- an object -/
inductive RO (G : Gh) (w : World) (O : Tb) (id : Nat) : Ob → Prop
  | box (gen cells cs T) (hb : w.heap[G.blk id]? = some (.cells cs T (0, 0))) (hw : G.own (G.blk id) = ⟨some id, some 0⟩) (hc : Cells (RC G w O) cells cs) : RO G w O id (.box gen cells)
  | mp (gen d es clock) (hb : w.heap[G.blk id]? = some (.map es clock)) (hw : G.own (G.blk id) = ⟨some id, some 0⟩) (hm : MapR d es) : RO G w O id (.box gen [.md d])
  | nil (gen sh n) (hn : G.isnil id = true) : RO G w O id (.arr gen sh n [])
  | arr (gen sh n xs cs T lim) (hn : G.isnil id = false) (hb : w.heap[G.blk id]? = some (.cells cs T (0, 0))) (hw : G.own (G.blk id) = ⟨some id, some lim⟩)
      (h0 : 0 < n) (hl : ∀ (i : Nat) (x : List V), xs[i]? = some x → x.length = n) (hc : xs.length ≤ G.cap id) (hz : G.cap id * n ≤ cs.size) (hs : sh = false → lim = 0) (ht : lim ≤ xs.length * n)
      (hh : ∀ (i : Nat) (x : List V) (j : Nat) (p : V), xs[i]? = some x → x[j]? = some p → ∃ c, cs[i * n + j]? = some c ∧ Sh (stab G w) p c) : RO G w O id (.arr gen sh n xs)
/-- what was known stays known -/
structure Le (G : Gh) (w : World) (O : Tb) (G' : Gh) (w' : World) (O' : Tb) : Prop where
  hs : ∀ b o c, stab G w b o c → stab G' w' b o c
  hk : ∀ id o, O id = some o → ∃ o', O' id = some o' ∧ (o.gen < o'.gen ∨ (o.gen = o'.gen ∧ o.sig = o'.sig ∧ G.blk id = G'.blk id ∧ (o.sig ≠ none → G.cap id = G'.cap id ∧ G.isnil id = G'.isnil id)))
theorem Le.refl {G : Gh} {w : World} {O : Tb} : Le G w O G w O := ⟨fun _ _ _ h => h, fun _ o h => ⟨o, h, .inr ⟨rfl, rfl, rfl, fun _ => ⟨rfl, rfl⟩⟩⟩⟩
section
variable {G G' : Gh} {w w' : World} {O O' : Tb}
theorem RC.mono (h : Le G w O G' w' O') {p : V} {v : Value} (hp : RC G w O p v) : RC G' w' O' p v := by
  induction hp with
  | dead v h1 => exact .dead v h1
  | sh p v hp => exact .sh p v (hp.mono h.hs)
  | own id gen o v h0 ho hg hv =>
    obtain ⟨o', ho', h1 | ⟨h1, h2, h3, h56⟩⟩ := h.hk id o ho
    · exact .own id gen o' v h0 ho' (by omega) (fun n len e _ => by omega)
    · refine .own id gen o' v h0 ho' (by omega) (fun n len e s => ?_)
      obtain ⟨h5, h6⟩ := h56 (by rw [h2.trans s]; simp)
      rw [hv n len (by omega) (h2.trans s)]; simp only [hdr, h3, h5, h6]
  | ptr id gen off o v h0 ho hg hv =>
    obtain ⟨o', ho', h1 | ⟨h1, h2, h3, h56⟩⟩ := h.hk id o ho
    · exact .ptr id gen off o' v h0 ho' (by omega) (fun e _ => by omega)
    · refine .ptr id gen off o' v h0 ho' (by omega) (fun e s => ?_)
      rw [hv (by omega) (h2.trans s), h3]
  | mp id gen o v h0 ho hg hv =>
    obtain ⟨o', ho', h1 | ⟨h1, h2, h3, h56⟩⟩ := h.hk id o ho
    · exact .mp id gen o' v h0 ho' (by omega) (fun e _ => by omega)
    · refine .mp id gen o' v h0 ho' (by omega) (fun e s => ?_)
      rw [hv (by omega) (h2.trans s), h3]
  | fn f caps cs c hl hc hh ih => exact .fn f caps cs c hl hc ih
theorem Cells.mono {R R' : V → Value → Prop} (h : ∀ p v, R p v → R' p v) {l : List V} {cs : Array Value} (hc : Cells R l cs) : Cells R' l cs :=
  ⟨hc.1, fun j p hp => let ⟨c, h1, h2⟩ := hc.2 j p hp; ⟨c, h1, h _ _ h2⟩⟩
theorem RA.mono (h : Le G w O G' w' O') {p : V} {v : Value} (hp : RA G w O p v) : RA G' w' O' p v := by
  cases hp with
  | cell _ _ hp => exact .cell _ _ (hp.mono h)
  | agg l cs hp => exact .agg l cs (hp.mono fun _ _ => RC.mono h)
theorem RV.mono (h : Le G w O G' w' O') {p : V} {v : Value} (hp : RV G w O p v) : RV G' w' O' p v := by
  cases hp with
  | dead v => exact .dead v
  | any _ _ hp => exact .any _ _ (hp.mono h)
  | tup l vs hp => exact .tup l vs (hp.mono fun _ _ => RA.mono h)
  | elp id gen i off o _ ho hg hv =>
    obtain ⟨o', ho', h1 | ⟨h1, h2, h3, h56⟩⟩ := h.hk id o ho
    · exact .elp id gen i off o' v ho' (by omega) (fun n len e _ => by omega)
    · refine .elp id gen i off o' v ho' (by omega) (fun n len e s => ?_)
      obtain ⟨e1, e2⟩ := hv n len (by omega) (h2.trans s)
      obtain ⟨h5, h6⟩ := h56 (by rw [h2.trans s]; simp)
      exact ⟨by rw [← h6]; exact e1, by rw [e2, h3]⟩
  | rp l b off hp => exact .rp l b off fun j p hj => let ⟨c, h1, h2⟩ := hp j p hj; ⟨c, h.hs _ _ _ h1, h2.mono h.hs⟩
/-- an object that nothing touched -/
theorem RO.mono (h : Le G w O G' w' O') {id : Nat} {o : Ob} (ho : RO G w O id o) (h1 : G.blk id = G'.blk id) (h3 : G.cap id = G'.cap id) (h4 : G.isnil id = G'.isnil id)
    (hb : G.isnil id = false ∨ o.sig = none → w'.heap[G.blk id]? = w.heap[G.blk id]? ∧ G'.own (G.blk id) = G.own (G.blk id)) : RO G' w' O' id o := by
  cases ho with
  | box gen cells cs T b hw hc => obtain ⟨e1, e2⟩ := hb (.inr rfl); exact .box gen cells cs T (by rw [← h1, e1, b]) (by rw [← h1, e2, hw]) (hc.mono fun _ _ => RC.mono h)
  | mp gen d es clock b hw hm => obtain ⟨e1, e2⟩ := hb (.inr rfl); exact .mp gen d es clock (by rw [← h1, e1, b]) (by rw [← h1, e2, hw]) hm
  | nil gen sh n hn => exact .nil gen sh n (h4 ▸ hn)
  | arr gen sh n xs cs T lim hn b hw h0 hl hc hz hs ht hh =>
    obtain ⟨e1, e2⟩ := hb (.inl hn)
    refine .arr gen sh n xs cs T lim (h4 ▸ hn) (by rw [← h1, e1, b]) (by rw [← h1, e2, hw]) h0 hl (by rw [← h3]; exact hc) (by rw [← h3]; exact hz) hs ht ?_
    intro i x j p hi hj; obtain ⟨c, hc1, hc2⟩ := hh i x j p hi hj; exact ⟨c, hc1, hc2.mono h.hs⟩
end
/-- tables, as lists -/
def lk {α : Type} : List (Nat × α) → Nat → Option α
  | [], _ => none
  | (k, v) :: r, t => match Nat.beq k t with | true => some v | false => lk r t
theorem lk_cons {α : Type} (k : Nat) (v : α) (r : List (Nat × α)) (t : Nat) : lk ((k, v) :: r) t = if k = t then some v else lk r t := by
  rw [lk]
  cases h : Nat.beq k t with
  | true => rw [if_pos (Nat.eq_of_beq_eq_true h)]
  | false => rw [if_neg (Nat.ne_of_beq_eq_false h)]
def lkV : List (Nat × V) → Nat → V
  | [], _ => .dead
  | (k, v) :: r, t => match Nat.beq k t with | true => v | false => lkV r t
theorem lkV_cons (k : Nat) (v : V) (r : List (Nat × V)) (t : Nat) : lkV ((k, v) :: r) t = if k = t then v else lkV r t := by
  rw [lkV]
  cases h : Nat.beq k t with
  | true => rw [if_pos (Nat.eq_of_beq_eq_true h)]
  | false => rw [if_neg (Nat.ne_of_beq_eq_false h)]
structure St where
  tm : List (Nat × V)
  ob : List (Nat × Ob)
def St.V (s : St) (t : Nat) : V := lkV s.tm t
def St.O (s : St) (t : Nat) : Option Ob := lk s.ob t
def St.put (s : St) (t : Nat) (v : PV.V) : St := ⟨(t, v) :: s.tm, s.ob⟩
def St.putO (s : St) (t : Nat) (o : Ob) : St := ⟨s.tm, (t, o) :: s.ob⟩
theorem St.V_put (s : St) (t u : Nat) (v : PV.V) : (s.put t v).V u = if t = u then v else s.V u := lkV_cons _ _ _ _
theorem St.O_putO (s : St) (t u : Nat) (o : Ob) : (s.putO t o).O u = if t = u then some o else s.O u := lk_cons _ _ _ _
/-- what is so of the world at every call: of the blocks of package variables -/
class Env (P : Program) where
  ng : Nat
  Z : World → Prop
  st : ∀ w w' : World, (∀ k, k < ng → w'.heap[k]? = w.heap[k]?) → Z w → Z w'
  /-- functions to which one's own slices are handed as objects -/
  hand : FuncId → Bool := fun _ => false
/-- what the call began with -/
structure Ent where
  G : Gh
  w : World
  nt : Nat
  bx : Nat → Option Nat
def Ent.ok (E : Ent) (P : Program) [Env P] (nt : Nat) : Prop := E.nt = nt ∧ (∀ k, k < Env.ng P → k < E.w.heap.size ∧ (E.G.own k).ow = none) ∧ Env.Z P E.w
structure Fr (E : Ent) (G : Gh) (w : World) : Prop where
  os : w.os = E.w.os
  tape : w.tape = E.w.tape
  output : w.output = E.w.output
  size : E.w.heap.size ≤ w.heap.size
  st : ∀ b o c, stab E.G E.w b o c → stab G w b o c
  im : ∀ k, k < E.w.heap.size → (E.G.own k).ow = none → G.own k = E.G.own k ∧ w.heap[k]? = E.w.heap[k]?
  bx : ∀ id b, E.bx id = some b → id < 64 ∧ G.blk id = b
theorem Fr.env {P : Program} [Env P] {nt : Nat} {E : Ent} {G : Gh} {w : World} (h : Fr E G w) (ho : E.ok P nt) : (∀ k, k < Env.ng P → k < w.heap.size ∧ (G.own k).ow = none) ∧ Env.Z P w := by
  obtain ⟨_, h1, h2⟩ := ho
  refine ⟨fun k hk => ?_, Env.st E.w w (fun k hk => (h.im k (h1 k hk).1 (h1 k hk).2).2) h2⟩
  obtain ⟨h3, h4⟩ := h1 k hk
  exact ⟨Nat.lt_of_lt_of_le h3 h.size, by rw [(h.im k h3 h4).1]; exact h4⟩
structure RG (E : Ent) (G : Gh) (s : St) (a : Act) (w : World) : Prop where
  nt : a.tmps.size = E.nt
  df : a.defers = []
  tm : ∀ t, RV G w s.O (s.V t) (a.tmps.getD t undef)
  ob : ∀ id o, s.O id = some o → RO G w s.O id o
  fr : Fr E G w
  bxs : ∀ id b, E.bx id = some b → ∃ g c, s.O id = some (.box g c)
def R (E : Ent) (s : St) (a : Act) (w : World) : Prop := ∃ G, RG E G s a w
theorem RV.of_sh {G : Gh} {w : World} {O : Tb} {p : V} {v : Value} (h : Sh (stab G w) p v) : RV G w O p v := .any _ _ (.cell _ _ (.sh _ _ h))
theorem getD_set (l : Array Value) (i j : Nat) (v d : Value) (h : i < l.size) : (l.setIfInBounds i v).getD j d = if i = j then v else l.getD j d := by
  simp only [Array.getD_eq_getD_getElem?, Array.getElem?_setIfInBounds]
  split
  · subst_vars; simp
  · rfl
theorem RG.put {E : Ent} {G : Gh} {s : St} {a : Act} {w : World} (h : RG E G s a w) {d : Nat} {p : V} {v : Value} (hd : d < E.nt) (hv : RV G w s.O p v) : RG E G (s.put d p) (a.put (some d) v) w where
  nt := by simp [Act.put, h.nt]
  df := h.df
  tm t := by
    simp only [Act.put, getD_set _ _ _ _ _ (h.nt ▸ hd), St.V_put]
    split
    · exact hv
    · exact h.tm t
  ob := h.ob
  fr := h.fr
  bxs := h.bxs
/-- the same, with memory turned -/
theorem RG.upd {E : Ent} {G G' : Gh} {s s' : St} {a : Act} {w w' : World} (h : RG E G s a w) (hV : ∀ t, s'.V t = s.V t) (hl : Le G w s.O G' w' s'.O) (ho : ∀ id o, s'.O id = some o → RO G' w' s'.O id o) (hf : Fr E G' w')
    (hb : ∀ id b, E.bx id = some b → s'.O id = s.O id ∨ ∃ g c, s'.O id = some (.box g c)) : RG E G' s' a w' :=
  ⟨h.nt, h.df, fun t => hV t ▸ (h.tm t).mono hl, ho, hf, fun id b e => (hb id b e).elim (fun h2 => by rw [h2]; exact h.bxs id b e) fun h2 => h2⟩
theorem Sh.one {σ : Nat → Nat → Value → Prop} {p : V} {v : Value} (h : Sh σ p v) : v.oneCell' = true := by cases h <;> rfl
theorem RC.one {G : Gh} {w : World} {O : Tb} {p : V} {v : Value} (h : RC G w O p v) : v.oneCell' = true := by
  cases h with
  | dead _ h1 => exact h1
  | sh _ _ h => exact h.one
  | own _ _ _ _ h1 => exact h1
  | ptr _ _ _ _ _ h1 => exact h1
  | mp _ _ _ _ h1 => exact h1
  | fn => rfl
theorem stab.lt {G : Gh} {w : World} {b o : Nat} {c : Value} (h : stab G w b o c) : b < w.heap.size := World.block_lt_of_cell? (a := ⟨b, o, none⟩) w h.2
theorem Fr.trans {E : Ent} {G G' : Gh} {w w' : World} (h : Fr E G w) (os : w'.os = w.os) (tape : w'.tape = w.tape) (out : w'.output = w.output) (size : w.heap.size ≤ w'.heap.size)
    (st : ∀ b o c, stab G w b o c → stab G' w' b o c) (im : ∀ k, k < w.heap.size → (G.own k).ow = none → G'.own k = G.own k ∧ w'.heap[k]? = w.heap[k]?) (bx : ∀ id, id < 64 → (∃ b, E.bx id = some b) → G'.blk id = G.blk id) : Fr E G' w' where
  os := os.trans h.os
  tape := tape.trans h.tape
  output := out.trans h.output
  size := Nat.le_trans h.size size
  st b o c hc := st _ _ _ (h.st _ _ _ hc)
  im k hk ho := by
    obtain ⟨h1, h2⟩ := h.im k hk ho
    obtain ⟨h3, h4⟩ := im k (Nat.lt_of_lt_of_le hk h.size) (by rw [h1]; exact ho)
    exact ⟨h3.trans h1, h4.trans h2⟩
  bx id b hb := ⟨(h.bx id b hb).1, (bx id (h.bx id b hb).1 ⟨b, hb⟩).trans (h.bx id b hb).2⟩
end Go.PV
namespace Go.PV
open Go Go.RowKit
inductive Loc where
  | slot (t : Nat)
  | ob (id : Nat)
  deriving DecidableEq
/-- what an operation does, told: reads and writes of slots and objects -/
inductive Pr : Type 1 where
  | done
  | fail
  | get (t : Nat) (k : V → Pr)
  | put (t : Nat) (v : V) (k : Pr)
  | getO (id : Nat) (k : Option Ob → Pr)
  | putO (id : Nat) (o : Ob) (k : Pr)
  | brs (t : Nat) (p q : Pr)
  | ex (β : Type) (φ : β → Prop) (k : β → Pr)
/-- a value, forced -/
def forceV (v : V) (k : V → Pr) : Pr := match v with
  | .dead => k .dead
  | .int i n => k (.int i n)
  | .bool b => k (.bool b)
  | .str l => k (.str l)
  | .nil => k .nil
  | .nilp => k .nilp
  | .nili => k .nili
  | .ifc => k .ifc
  | .fn f c => k (.fn f c)
  | .agg l => k (.agg l)
  | .tup l => k (.tup l)
  | .sl n xs => k (.sl n xs)
  | .own id g => k (.own id g)
  | .ptr id g off => k (.ptr id g off)
  | .elp id g i off => k (.elp id g i off)
  | .rp l => k (.rp l)
  | .mp id g => k (.mp id g)
  | .md d => k (.md d)
theorem forceV_eq (v : V) (k : V → Pr) : forceV v k = k v := by cases v <;> rfl
def St.putP (s : St) (t : Nat) (v : PV.V) (k : St → Prop) : Prop := match s with
  | ⟨tm, ob⟩ => k ⟨(t, v) :: tm, ob⟩
def St.putOP (s : St) (t : Nat) (o : Ob) (k : St → Prop) : Prop := match s with
  | ⟨tm, ob⟩ => k ⟨tm, (t, o) :: ob⟩
theorem St.putP_eq (s : St) (t : Nat) (v : PV.V) (k : St → Prop) : s.putP t v k = k (s.put t v) := by cases s; rfl
theorem St.putOP_eq (s : St) (t : Nat) (o : Ob) (k : St → Prop) : s.putOP t o k = k (s.putO t o) := by cases s; rfl
def branch (b : Bool) (p q : Prop) : Prop := match b with | true => p | false => q
/-- the same, for statements -/
def forceW (v : V) (k : V → Prop) : Prop := match v with
  | .dead => k .dead
  | .int i n => k (.int i n)
  | .bool b => k (.bool b)
  | .str l => k (.str l)
  | .nil => k .nil
  | .nilp => k .nilp
  | .nili => k .nili
  | .ifc => k .ifc
  | .fn f c => k (.fn f c)
  | .agg l => k (.agg l)
  | .tup l => k (.tup l)
  | .sl n xs => k (.sl n xs)
  | .own id g => k (.own id g)
  | .ptr id g off => k (.ptr id g off)
  | .elp id g i off => k (.elp id g i off)
  | .rp l => k (.rp l)
  | .mp id g => k (.mp id g)
  | .md d => k (.md d)
theorem forceW_eq (v : V) (k : V → Prop) : forceW v k = k v := by cases v <;> rfl
/-- with logs: for the walk -/
def Pr.wp : Pr → St → List Loc → List Loc → (St → List Loc → List Loc → Prop) → Prop
  | .done, s, A, B, K => K s A B
  | .fail, _, _, _, _ => False
  | .get t k, s, A, B, K => forceW (s.V t) fun v => (k v).wp s (.slot t :: A) B K
  | .put t v k, s, A, B, K => s.putP t v fun s' => k.wp s' A (.slot t :: B) K
  | .getO id k, s, A, B, K => (k (s.O id)).wp s (.ob id :: A) B K
  | .putO id o k, s, A, B, K => s.putOP id o fun s' => k.wp s' A (.ob id :: B) K
  | .brs t p q, s, A, B, K => match s.V t with
    | .bool b => branch b (s.putP t (.bool true) fun s' => p.wp s' (.slot t :: A) B K) (s.putP t (.bool false) fun s' => q.wp s' (.slot t :: A) B K)
    | _ => False
  | .ex β φ k, s, A, B, K => ∃ b : β, φ b ∧ (k b).wp s A B K
inductive Pr.Runs : Pr → St → St → List Loc → List Loc → Prop
  | done (s) : Runs .done s s [] []
  | get {t k s s' A B} (h : Runs (k (s.V t)) s s' A B) : Runs (.get t k) s s' (.slot t :: A) B
  | put {t v k s s' A B} (h : Runs k (s.put t v) s' A B) : Runs (.put t v k) s s' A (.slot t :: B)
  | getO {id k s s' A B} (h : Runs (k (s.O id)) s s' A B) : Runs (.getO id k) s s' (.ob id :: A) B
  | putO {id o k s s' A B} (h : Runs k (s.putO id o) s' A B) : Runs (.putO id o k) s s' A (.ob id :: B)
  | brT {t p q s s' A B} (e : s.V t = .bool true) (h : Runs p s s' A B) : Runs (.brs t p q) s s' (.slot t :: A) B
  | brF {t p q s s' A B} (e : s.V t = .bool false) (h : Runs q s s' A B) : Runs (.brs t p q) s s' (.slot t :: A) B
  | ex {β φ k s s' A B} (b : β) (hb : φ b) (h : Runs (k b) s s' A B) : Runs (.ex β φ k) s s' A B
def St.Eqv (s u : St) : Prop := (∀ t, s.V t = u.V t) ∧ ∀ id, s.O id = u.O id
theorem St.Eqv.refl (s : St) : s.Eqv s := ⟨fun _ => rfl, fun _ => rfl⟩
theorem St.Eqv.symm {s u : St} (h : s.Eqv u) : u.Eqv s := ⟨fun t => (h.1 t).symm, fun t => (h.2 t).symm⟩
theorem St.Eqv.trans {s u v : St} (h : s.Eqv u) (k : u.Eqv v) : s.Eqv v := ⟨fun t => (h.1 t).trans (k.1 t), fun t => (h.2 t).trans (k.2 t)⟩
theorem St.Eqv.put {s u : St} (h : s.Eqv u) (t : Nat) (v : PV.V) : (s.put t v).Eqv (u.put t v) := ⟨fun x => by simp only [St.V_put, h.1], h.2⟩
theorem St.Eqv.putO {s u : St} (h : s.Eqv u) (t : Nat) (o : Ob) : (s.putO t o).Eqv (u.putO t o) := ⟨h.1, fun x => by simp only [St.O_putO, h.2]⟩
theorem RG.eqv {E : Ent} {G : Gh} {s u : St} {a : Act} {w : World} (h : RG E G s a w) (e : s.Eqv u) : RG E G u a w := by
  have hO : s.O = u.O := funext e.2
  exact ⟨h.nt, h.df, fun t => by rw [← e.1, ← hO]; exact h.tm t, fun id o ho => by rw [← hO]; exact h.ob id o (by rw [e.2]; exact ho), h.fr, fun id b hb => by rw [← hO]; exact h.bxs id b hb⟩
theorem Pr.Runs.eqv {p : Pr} {s s' : St} {A B : List Loc} (h : Runs p s s' A B) : ∀ {u : St}, s.Eqv u → ∃ u', Runs p u u' A B ∧ s'.Eqv u' := by
  induction h with
  | done s => exact fun {u} e => ⟨u, .done u, e⟩
  | get h ih => intro u e; obtain ⟨u', h1, h2⟩ := ih e; exact ⟨u', .get (by rw [← e.1]; exact h1), h2⟩
  | put h ih => intro u e; obtain ⟨u', h1, h2⟩ := ih (St.Eqv.put e _ _); exact ⟨u', .put h1, h2⟩
  | getO h ih => intro u e; obtain ⟨u', h1, h2⟩ := ih e; exact ⟨u', .getO (by rw [← e.2]; exact h1), h2⟩
  | putO h ih => intro u e; obtain ⟨u', h1, h2⟩ := ih (St.Eqv.putO e _ _); exact ⟨u', .putO h1, h2⟩
  | brT e' h ih => intro u e; obtain ⟨u', h1, h2⟩ := ih e; exact ⟨u', .brT (by rw [← e.1]; exact e') h1, h2⟩
  | brF e' h ih => intro u e; obtain ⟨u', h1, h2⟩ := ih e; exact ⟨u', .brF (by rw [← e.1]; exact e') h1, h2⟩
  | ex b hb h ih => intro u e; obtain ⟨u', h1, h2⟩ := ih e; exact ⟨u', .ex b hb h1, h2⟩
theorem Pr.wp_runs {p : Pr} : ∀ {s : St} {A B : List Loc} {K : St → List Loc → List Loc → Prop}, p.wp s A B K → ∃ s' s'' A' B', Runs p s s' A' B' ∧ s'.Eqv s'' ∧ K s'' (A'.reverse ++ A) (B'.reverse ++ B) := by
  induction p with
  | done => intro s A B K h; exact ⟨s, s, [], [], .done s, .refl s, h⟩
  | fail => intro s A B K h; exact h.elim
  | get t k ih => intro s A B K h; simp only [Pr.wp, forceW_eq] at h; obtain ⟨s', s'', A', B', h1, h2, h3⟩ := ih _ h; exact ⟨s', s'', _, _, .get h1, h2, by simpa using h3⟩
  | put t v k ih => intro s A B K h; simp only [Pr.wp, St.putP_eq] at h; obtain ⟨s', s'', A', B', h1, h2, h3⟩ := ih h; exact ⟨s', s'', _, _, .put h1, h2, by simpa using h3⟩
  | getO t k ih => intro s A B K h; obtain ⟨s', s'', A', B', h1, h2, h3⟩ := ih _ h; exact ⟨s', s'', _, _, .getO h1, h2, by simpa using h3⟩
  | putO t v k ih => intro s A B K h; simp only [Pr.wp, St.putOP_eq] at h; obtain ⟨s', s'', A', B', h1, h2, h3⟩ := ih h; exact ⟨s', s'', _, _, .putO h1, h2, by simpa using h3⟩
  | brs t p q ihp ihq =>
    intro s A B K h
    simp only [Pr.wp] at h
    split at h
    · rename_i b hb
      have he : ∀ c, b = c → s.Eqv (s.put t (.bool c)) := fun c hc => ⟨fun u => by rw [St.V_put]; split <;> simp_all, fun _ => rfl⟩
      simp only [St.putP_eq] at h
      cases b with
      | true =>
        obtain ⟨s', s'', A', B', h1, h2, h3⟩ := ihp h
        obtain ⟨u', h4, h5⟩ := h1.eqv (he _ rfl).symm
        exact ⟨u', s'', _, _, .brT hb h4, h5.symm.trans h2, by simpa using h3⟩
      | false =>
        obtain ⟨s', s'', A', B', h1, h2, h3⟩ := ihq h
        obtain ⟨u', h4, h5⟩ := h1.eqv (he _ rfl).symm
        exact ⟨u', s'', _, _, .brF hb h4, h5.symm.trans h2, by simpa using h3⟩
    · exact h.elim
  | ex β φ k ih => intro s A B K h; obtain ⟨b, hb, h⟩ := h; obtain ⟨s', s'', A', B', h1, h2, h3⟩ := ih b h; exact ⟨s', s'', A', B', .ex b hb h1, h2, h3⟩
/-- without logs: for the soundness -/
def Pr.mwp : Pr → St → (St → Prop) → Prop
  | .done, s, K => K s
  | .fail, _, _ => False
  | .get t k, s, K => (k (s.V t)).mwp s K
  | .put t v k, s, K => k.mwp (s.put t v) K
  | .getO id k, s, K => (k (s.O id)).mwp s K
  | .putO id o k, s, K => k.mwp (s.putO id o) K
  | .brs t p q, s, K => (s.V t = .bool true ∧ p.mwp s K) ∨ (s.V t = .bool false ∧ q.mwp s K)
  | .ex β φ k, s, K => ∃ b : β, φ b ∧ (k b).mwp s K
theorem Pr.Runs.mwp {p : Pr} {s s' : St} {A B : List Loc} (h : Runs p s s' A B) : p.mwp s (· = s') := by
  induction h with
  | done s => rfl
  | get h ih => exact ih
  | put h ih => exact ih
  | getO h ih => exact ih
  | putO h ih => exact ih
  | brT e h ih => exact .inl ⟨e, ih⟩
  | brF e h ih => exact .inr ⟨e, ih⟩
  | ex b hb h ih => exact ⟨b, hb, ih⟩
/-- forced lists -/
def force {α : Type} : List α → (List α → Pr) → Pr
  | [], k => k []
  | x :: xs, k => force xs fun ys => k (x :: ys)
theorem force_eq {α : Type} (l : List α) (k : List α → Pr) : force l k = k l := by
  induction l generalizing k with
  | nil => rfl
  | cons x xs ih => simp only [force, ih]
def ofC : Value → V
  | .int k n => .int k n
  | .bool b => .bool b
  | .string s => .str s.data.toList
  | .slice none 0 0 => .nil
  | .pointer none => .nilp
  | .nilIface => .nili
  | _ => .dead
def ofCK (v : Value) (k : V → Pr) : Pr := match v with
  | .int i n => k (.int i n)
  | .bool b => k (.bool b)
  | .string s => k (.str s.data.toList)
  | .slice none 0 0 => k .nil
  | .pointer none => k .nilp
  | .nilIface => k .nili
  | _ => k .dead
theorem ofCK_eq (v : Value) (k : V → Pr) : ofCK v k = k (ofC v) := by unfold ofCK ofC; split <;> rfl
def ofCsK : List Value → (List V → Pr) → Pr
  | [], k => k []
  | x :: xs, k => ofCK x fun y => ofCsK xs fun ys => k (y :: ys)
theorem ofCsK_eq (l : List Value) (k : List V → Pr) : ofCsK l k = k (l.map ofC) := by
  induction l generalizing k with
  | nil => rfl
  | cons x xs ih => simp only [ofCsK, ofCK_eq, ih, List.map_cons]
def rdV (x : Operand) (k : V → Pr) : Pr := match x with
  | .tmp t => .get t k
  | .const c => ofCK c k
  | .func f => k (.fn f [])
  | .global _ => k .dead
def rdVs : List Operand → (List V → Pr) → Pr
  | [], k => k []
  | x :: xs, k => rdV x fun v => rdVs xs fun vs => k (v :: vs)
def setD (nt : Nat) (d : Option Nat) (v : V) (k : Pr) : Pr := match d with
  | none => k
  | some t => match Nat.blt t nt with | true => .put t v k | false => .fail
def St.ev (s : St) : Operand → PV.V
  | .tmp t => s.V t
  | .const c => ofC c
  | .func f => .fn f []
  | .global _ => .dead
theorem rdV_mwp (x : Operand) (k : V → Pr) (s : St) (K : St → Prop) : (rdV x k).mwp s K = (k (s.ev x)).mwp s K := by
  cases x <;> simp only [rdV, St.ev, Pr.mwp, ofCK_eq]
theorem rdVs_mwp (xs : List Operand) (k : List V → Pr) (s : St) (K : St → Prop) : (rdVs xs k).mwp s K = (k (xs.map s.ev)).mwp s K := by
  induction xs generalizing k with
  | nil => rfl
  | cons x xs ih => simp only [rdVs, rdV_mwp, ih, List.map_cons]
theorem ofC_sound {G : Gh} {w : World} {O : Tb} (v : Value) (h1 : v.oneCell' = true) : RC G w O (ofC v) v := by
  unfold ofC
  split
  · exact .sh _ _ (.int _ _)
  · exact .sh _ _ (.bool _)
  · rename_i s; have h := Sh.str (σ := stab G w) s.data.toList; exact .sh _ _ (by simpa using h)
  · exact .sh _ _ .nil
  · exact .sh _ _ .nilp
  · exact .sh _ _ .nili
  · exact .dead _ h1
theorem ev_sound {E : Ent} {G : Gh} {s : St} {a : Act} {w : World} (h : RG E G s a w) (x : Operand) : RV G w s.O (s.ev x) (a.eval x) := by
  cases x with
  | tmp t => exact h.tm t
  | const c =>
    by_cases h1 : c.oneCell' = true
    · exact .any _ _ (.cell _ _ (ofC_sound c h1))
    · cases c <;> first | (exact absurd rfl h1) | exact .dead _
  | func f => exact .of_sh (.fn f)
  | global g => exact .dead _
end Go.PV
namespace Go.PV
open Go Go.RowKit
theorem opwp_value {P : Program} {o : Oper} {a : Act} {w w' : World} {v : Value} {next : Act → World → Prop} {Q : Exit → Act → World → Prop} (hr : (execOp a.eval o).run P w = .ok (.value v) w') (h : next (a.put o.dst v) w') : o.wp P a w next Q := by
  unfold Oper.wp; rw [hr]; exact h
theorem opwp_skip {P : Program} {o : Oper} {a : Act} {w w' : World} {next : Act → World → Prop} {Q : Exit → Act → World → Prop} (hr : (execOp a.eval o).run P w = .ok .skip w') (h : next (a.put o.dst undef) w') : o.wp P a w next Q := by
  unfold Oper.wp; rw [hr]; exact h
/-- a told operation is sound -/
def OpS (P : Program) [Env P] (nt : Nat) (o : Oper) (pr : Pr) : Prop :=
  ∀ (E : Ent) (G : Gh) (s : St) (a : Act) (w : World) (K : St → Prop) (next : Act → World → Prop) (Q : Exit → Act → World → Prop), E.ok P nt → RG E G s a w → pr.mwp s K →
    (∀ s' a' w', K s' → R E s' a' w' → next a' w') → o.wp P a w next Q
theorem setD_put {P : Program} [Env P] {E : Ent} {G : Gh} {s : St} {a : Act} {w : World} {K : St → Prop} {d : Option Nat} {p : V} {v : Value} {nt : Nat} (hnt : E.ok P nt) (h : RG E G s a w) (hv : RV G w s.O p v) (hm : (setD nt d p .done).mwp s K) : ∃ s', K s' ∧ RG E G s' (a.put d v) w := by
  cases d with
  | none => exact ⟨s, hm, h⟩
  | some t =>
    unfold setD at hm
    cases hb : Nat.blt t nt with
    | false => simp only [hb] at hm; exact hm.elim
    | true =>
      simp only [hb] at hm
      exact ⟨_, hm, h.put (hnt.1 ▸ by simpa using hb) hv⟩
/-- an operation that only computes -/
theorem OpS.pure {P : Program} [Env P] {nt : Nat} {o : Oper} {pr : Pr}
    (h : ∀ (E : Ent) (G : Gh) (s : St) (a : Act) (w : World) (K : St → Prop), RG E G s a w → pr.mwp s K → ∃ p v, (setD nt o.dst p .done).mwp s K ∧ (execOp a.eval o).run P w = .ok (.value v) w ∧ RV G w s.O p v) : OpS P nt o pr := by
  intro E G s a w K next Q hnt hR hm hn
  obtain ⟨p, v, h1, h2, h3⟩ := h E G s a w K hR hm
  obtain ⟨s', hk, hR'⟩ := setD_put hnt hR h3 h1
  exact opwp_value h2 (hn _ _ _ hk ⟨G, hR'⟩)
def prMove (nt : Nat) (o : Oper) (x : Operand) : Pr := rdV x fun v => setD nt o.dst v .done
theorem prMove_ok {P : Program} [Env P] {nt : Nat} {o : Oper} {x : Operand} (ho : o.op = .move x ∨ o.op = .assign x) : OpS P nt o (prMove nt o x) :=
  .pure fun E G s a w K hR hm => ⟨s.ev x, a.eval x, by simpa only [prMove, rdV_mwp] using hm, by rcases ho with ho | ho <;> simp [execOp, ho], ev_sound hR x⟩
def prPick (nt : Nat) (o : Oper) (c x y : Operand) : Pr := match c with
  | .tmp t => .brs t (prMove nt o x) (prMove nt o y)
  | .const (.bool true) => prMove nt o x
  | .const (.bool false) => prMove nt o y
  | _ => .fail
theorem RV.bool_inv {G : Gh} {w : World} {O : Tb} {b : Bool} {v : Value} (h : RV G w O (.bool b) v) : v = .bool b := by
  cases h with | any _ _ h => cases h with | cell _ _ h => cases h with | sh _ _ h => cases h; rfl
theorem RV.int_inv {G : Gh} {w : World} {O : Tb} {k : IntKind} {n : Int} {v : Value} (h : RV G w O (.int k n) v) : v = .int k n := by
  cases h with | any _ _ h => cases h with | cell _ _ h => cases h with | sh _ _ h => cases h; rfl
theorem RV.str_inv {G : Gh} {w : World} {O : Tb} {l : List UInt8} {v : Value} (h : RV G w O (.str l) v) : v = .string ⟨l.toArray⟩ := by
  cases h with | any _ _ h => cases h with | cell _ _ h => cases h with | sh _ _ h => cases h; rfl
theorem RV.nil_inv {G : Gh} {w : World} {O : Tb} {v : Value} (h : RV G w O .nil v) : v = .slice none 0 0 := by
  cases h with | any _ _ h => cases h with | cell _ _ h => cases h with | sh _ _ h => cases h; rfl
theorem RV.nili_inv {G : Gh} {w : World} {O : Tb} {v : Value} (h : RV G w O .nili v) : v = .nilIface := by
  cases h with | any _ _ h => cases h with | cell _ _ h => cases h with | sh _ _ h => cases h; rfl
theorem RV.ifc_inv {G : Gh} {w : World} {O : Tb} {v : Value} (h : RV G w O .ifc v) : ∃ t x, v = .iface t x := by
  cases h with | any _ _ h => cases h with | cell _ _ h => cases h with | sh _ _ h => cases h; exact ⟨_, _, rfl⟩
theorem RV.sl_inv {G : Gh} {w : World} {O : Tb} {n : Nat} {xs : List (List V)} {v : Value} (h : RV G w O (.sl n xs) v) : Sh (stab G w) (.sl n xs) v := by
  cases h with | any _ _ h => cases h with | cell _ _ h => cases h with | sh _ _ h => exact h
theorem RV.agg_inv {G : Gh} {w : World} {O : Tb} {l : List V} {v : Value} (h : RV G w O (.agg l) v) : ∃ cs, v = .agg cs ∧ Cells (RC G w O) l cs := by
  cases h with
  | any _ _ h => cases h with
    | cell _ _ h => cases h with
      | sh _ _ h => cases h
    | agg l cs h => exact ⟨cs, rfl, h⟩
theorem RV.tup_inv {G : Gh} {w : World} {O : Tb} {l : List V} {v : Value} (h : RV G w O (.tup l) v) : ∃ cs, v = .tuple cs ∧ Cells (RA G w O) l cs := by
  cases h with
  | any _ _ h => cases h with
    | cell _ _ h => cases h with
      | sh _ _ h => cases h
  | tup l cs h => exact ⟨cs, rfl, h⟩
theorem prPick_ok {P : Program} [Env P] {nt : Nat} {o : Oper} {c x y : Operand} (ho : o.op = .pick c x y) : OpS P nt o (prPick nt o c x y) := by
  refine .pure fun E G s a w K hR hm => ?_
  have go : ∀ b z, a.eval c = .bool b → (if b then x else y) = z → (prMove nt o z).mwp s K → ∃ p v, (setD nt o.dst p .done).mwp s K ∧ (execOp a.eval o).run P w = .ok (.value v) w ∧ RV G w s.O p v := by
    intro b z hb hz hm
    refine ⟨s.ev z, a.eval z, by simpa only [prMove, rdV_mwp] using hm, ?_, ev_sound hR z⟩
    cases b <;> simp [execOp, ho, hb, asBool] <;> simp at hz <;> rw [hz]
  unfold prPick at hm
  split at hm
  · rename_i t
    simp only [Pr.mwp] at hm
    rcases hm with ⟨e, hm⟩ | ⟨e, hm⟩
    · exact go true x ((e ▸ hR.tm t : RV G w s.O (.bool true) _).bool_inv) rfl hm
    · exact go false y ((e ▸ hR.tm t : RV G w s.O (.bool false) _).bool_inv) rfl hm
  · exact go true x rfl rfl hm
  · exact go false y rfl rfl hm
  · exact hm.elim
/-- arithmetic -/
def intK (op : BinOp) (i : IntKind) (m n : Int) (k : V → Pr) : Pr := match op with
  | .add => k (.int i (i.wrap (m + n)))
  | .sub => k (.int i (i.wrap (m - n)))
  | .mul => k (.int i (i.wrap (m * n)))
  | .quo => .ex PUnit (fun _ => n ≠ 0) fun _ => k (.int i (i.wrap (m.tdiv n)))
  | .rem => .ex PUnit (fun _ => n ≠ 0) fun _ => k (.int i (m.tmod n))
  | .eql => k (.bool (decide (m = n)))
  | .neq => k (.bool (!decide (m = n)))
  | .lss => k (.bool (decide (m < n)))
  | .leq => k (.bool (decide (m ≤ n)))
  | .gtr => k (.bool (decide (n < m)))
  | .geq => k (.bool (decide (n ≤ m)))
  | _ => .fail
def strK (op : BinOp) (l m : List UInt8) (k : V → Pr) : Pr := match op with
  | .add => .ex PUnit (fun _ => l.length + m.length ≤ 9223372036854775807) fun _ => k (.str (l ++ m))
  | .eql => k (.bool (decide (l = m)))
  | .neq => k (.bool (!decide (l = m)))
  | .lss => k (.bool (Op.bytesLess l m))
  | .leq => k (.bool (Op.bytesLess l m || decide (l = m)))
  | .gtr => k (.bool (!(Op.bytesLess l m || decide (l = m))))
  | .geq => k (.bool (!Op.bytesLess l m))
  | _ => .fail
def scal : V → Option Value
  | .int k n => some (.int k n)
  | .bool b => some (.bool b)
  | .str l => some (.string ⟨l.toArray⟩)
  | _ => none
def scals : List V → Option (List Value)
  | [] => some []
  | x :: xs => match scal x, scals xs with
    | some v, some vs => some (v :: vs)
    | _, _ => none
/-- two structs of plain cells are the same, or not (told type by type) -/
def EqV (P : Program) (op : BinOp) (t : TypeId) (l m : List V) (r : Bool) : Prop :=
  ∃ xs ys, scals l = some xs ∧ scals m = some ys ∧ ∀ w x y, (do eqGuard op t x y (.agg xs.toArray) (.agg ys.toArray); binOp op t (.agg xs.toArray) (.agg ys.toArray) : Sem Value).run P w = .ok (.bool r) w
def isConst : Operand → Bool
  | .const _ => true
  | _ => false
def binK (P : Program) (op : BinOp) (t : TypeId) (c : Bool) (x y : V) (k : V → Pr) : Pr := match x, y with
  | .int i m, .int j n => match decEq i j with
    | .isTrue _ => intK op i m n k
    | .isFalse _ => .fail
  | .str l, .str m => strK op l m k
  | .bool a, .bool b => match P.underlying t with
    | some .bool => match op with
      | .eql => k (.bool (a == b))
      | .neq => k (.bool (!(a == b)))
      | _ => .fail
    | _ => .fail
  | .nili, .nili => match c, P.underlying t, op with
    | true, some (.interface _), .eql => k (.bool true)
    | true, some (.interface _), .neq => k (.bool false)
    | _, _, _ => .fail
  | .ifc, .nili => match P.underlying t, op with
    | some (.interface _), .eql => k (.bool false)
    | some (.interface _), .neq => k (.bool true)
    | _, _ => .fail
  | .agg l, .agg m => .ex Bool (fun r => EqV P op t l m r) fun r => k (.bool r)
  | _, _ => .fail
def prBin (P : Program) (nt : Nat) (o : Oper) (op : BinOp) (t : TypeId) (x y : Operand) : Pr :=
  rdV x fun u => rdV y fun v => binK P op t (isConst x || isConst y) u v fun r => setD nt o.dst r .done
section
variable {P : Program} {op : BinOp} {t : TypeId} {k : V → Pr} {s : St} {K : St → Prop}
theorem intK_ok {i : IntKind} {m n : Int} (h : (intK op i m n k).mwp s K) : ∃ p v, (k p).mwp s K ∧ (∀ w, (binOp op t (.int i m) (.int i n)).run P w = .ok v w) ∧ ∀ σ, Sh σ p v := by
  cases op <;> simp only [intK] at h
  case add => exact ⟨_, .int i (i.wrap (m + n)), h, fun w => by simp [binOp, Op.intArith], fun σ => .int _ _⟩
  case sub => exact ⟨_, .int i (i.wrap (m - n)), h, fun w => by simp [binOp, Op.intArith], fun σ => .int _ _⟩
  case mul => exact ⟨_, .int i (i.wrap (m * n)), h, fun w => by simp [binOp, Op.intArith], fun σ => .int _ _⟩
  case quo => obtain ⟨_, hn, h⟩ := h; exact ⟨_, _, h, fun w => by simp only [binOp, Op.intDiv, hn, ne_eq, not_true, if_false]; rfl, fun σ => .int _ _⟩
  case rem => obtain ⟨_, hn, h⟩ := h; exact ⟨_, _, h, fun w => by simp only [binOp, Op.intDiv, hn, ne_eq, not_true, if_false]; rfl, fun σ => .int _ _⟩
  case eql => exact ⟨_, .bool (decide (m = n)), h, fun w => by simp only [binOp, Op.intCmp, ne_eq, not_true, if_false]; rfl, fun σ => .bool _⟩
  case neq => exact ⟨_, .bool (!decide (m = n)), h, fun w => by simp only [binOp, Op.intCmp, ne_eq, not_true, if_false]; rfl, fun σ => .bool _⟩
  case lss => exact ⟨_, .bool (decide (m < n)), h, fun w => by simp only [binOp, Op.intCmp, ne_eq, not_true, if_false]; rfl, fun σ => .bool _⟩
  case leq => exact ⟨_, .bool (decide (m ≤ n)), h, fun w => by simp only [binOp, Op.intCmp, ne_eq, not_true, if_false]; rfl, fun σ => .bool _⟩
  case gtr => exact ⟨_, .bool (decide (n < m)), h, fun w => by simp only [binOp, Op.intCmp, ne_eq, not_true, if_false]; rfl, fun σ => .bool _⟩
  case geq => exact ⟨_, .bool (decide (n ≤ m)), h, fun w => by simp only [binOp, Op.intCmp, ne_eq, not_true, if_false]; rfl, fun σ => .bool _⟩
  all_goals exact h.elim
theorem tl_str (l : List UInt8) : (⟨l.toArray⟩ : ByteArray).toList = l := by rw [ByteArray.toList_eq]
theorem dec_beq (l m : List UInt8) : decide (l = m) = (l == m) := by rw [Bool.eq_iff_iff]; simp
theorem strK_ok {l m : List UInt8} (h : (strK op l m k).mwp s K) : ∃ p v, (k p).mwp s K ∧ (∀ w, (binOp op t (.string ⟨l.toArray⟩) (.string ⟨m.toArray⟩)).run P w = .ok v w) ∧ ∀ σ, Sh σ p v := by
  cases op <;> simp only [strK] at h
  case add =>
    obtain ⟨_, hn, h⟩ := h
    refine ⟨_, .string (⟨l.toArray⟩ ++ ⟨m.toArray⟩), h, fun w => ?_, fun σ => ?_⟩
    · have h1 : ((⟨l.toArray⟩ : ByteArray).size + (⟨m.toArray⟩ : ByteArray).size) ≤ 9223372036854775807 := by simpa [ByteArray.size] using hn
      have h2 : ¬ ((((⟨l.toArray⟩ : ByteArray).size + (⟨m.toArray⟩ : ByteArray).size : Nat) : Int) > IntKind.i64.max) := by
        have : IntKind.i64.max = 9223372036854775807 := by decide
        rw [this]; omega
      simp only [binOp, Op.stringOp]
      rw [if_neg h2]
      rfl
    · have e : (⟨l.toArray⟩ ++ ⟨m.toArray⟩ : ByteArray) = ⟨(l ++ m).toArray⟩ := by
        apply ByteArray.ext; simp
      rw [e]; exact .str _
  case eql => exact ⟨_, _, h, fun w => by simp only [binOp, Op.stringOp, tl_str]; rfl, fun σ => by rw [dec_beq]; exact .bool _⟩
  case neq => exact ⟨_, _, h, fun w => by simp only [binOp, Op.stringOp, tl_str]; rfl, fun σ => by rw [dec_beq]; exact .bool _⟩
  case lss => exact ⟨_, _, h, fun w => by simp only [binOp, Op.stringOp, tl_str]; rfl, fun σ => .bool _⟩
  case leq => exact ⟨_, _, h, fun w => by simp only [binOp, Op.stringOp, tl_str]; rfl, fun σ => by rw [dec_beq]; exact .bool _⟩
  case gtr => exact ⟨_, _, h, fun w => by simp only [binOp, Op.stringOp, tl_str]; rfl, fun σ => by rw [dec_beq]; exact .bool _⟩
  case geq => exact ⟨_, _, h, fun w => by simp only [binOp, Op.stringOp, tl_str]; rfl, fun σ => .bool _⟩
  all_goals exact h.elim
end
end Go.PV
namespace Go.PV
open Go Go.RowKit
section
variable {P : Program} {nt : Nat} {o : Oper}
theorem scal_rc {G : Gh} {w : World} {O : Tb} {p : V} {v u : Value} (h : RC G w O p v) (hs : scal p = some u) : v = u := by
  cases h with
  | sh _ _ h => cases h <;> first | (simp [scal] at hs; done) | (simp only [scal, Option.some.injEq] at hs; exact hs)
  | _ => simp [scal] at hs
theorem scals_spec : ∀ {l : List V} {xs : List Value}, scals l = some xs → xs.length = l.length ∧ ∀ (j : Nat) (p : V), l[j]? = some p → ∃ u, xs[j]? = some u ∧ scal p = some u
  | [], xs, h => by simp only [scals, Option.some.injEq] at h; subst h; exact ⟨rfl, fun j p hj => by simp at hj⟩
  | x :: l, xs, h => by
    simp only [scals] at h
    split at h
    · rename_i v vs hv hvs
      simp only [Option.some.injEq] at h
      subst h
      obtain ⟨h1, h2⟩ := scals_spec hvs
      refine ⟨by simp [h1], fun j p hj => ?_⟩
      cases j with
      | zero => simp only [List.getElem?_cons_zero, Option.some.injEq] at hj; subst hj; exact ⟨v, rfl, hv⟩
      | succ j => simpa using h2 j p (by simpa using hj)
    · cases h
theorem scals_cells {G : Gh} {w : World} {O : Tb} {l : List V} {xs : List Value} {cs : Array Value} (h : scals l = some xs) (hc : Cells (RC G w O) l cs) : cs = xs.toArray := by
  obtain ⟨h1, h2⟩ := scals_spec h
  apply Array.ext_getElem?
  intro j
  by_cases hj : j < l.length
  · obtain ⟨p, hp⟩ : ∃ p, l[j]? = some p := ⟨_, List.getElem?_eq_getElem hj⟩
    obtain ⟨c, hc1, hc2⟩ := hc.2 j p hp
    obtain ⟨u, hu1, hu2⟩ := h2 j p hp
    rw [hc1, scal_rc hc2 hu2]
    simp [hu1]
  · rw [Array.getElem?_eq_none (by rw [hc.1]; omega)]
    simp [List.getElem?_eq_none (show xs.length ≤ j by omega)]
theorem eqGuard_none {op : BinOp} {t : TypeId} {x y : Operand} {a b : Value} (w : World) (h1 : ∀ cs, a ≠ .agg cs) (h2 : a ≠ .nilIface ∨ b ≠ .nilIface) : (eqGuard op t x y a b).run P w = .ok () w := by
  cases a <;> first | exact absurd rfl (h1 _) | (cases op <;> rfl) | (cases b <;> first | (simp at h2; done) | (cases op <;> rfl))
theorem eq_nili {t : TypeId} {u : Array (String × TypeId)} (ht : P.underlying t = some (.interface u)) (w : World) : (Op.equal t .nilIface .nilIface).run P w = .ok true w := by
  show (Op.equalIn (Nat.succ 9999) t .nilIface .nilIface).run P w = _
  rw [Op.equalIn.eq_2, Sem.run_bind, run_underlying ht]
  rfl
theorem eq_ifc {t v : TypeId} {u : Array (String × TypeId)} {x : Value} (ht : P.underlying t = some (.interface u)) (w : World) : (Op.equal t (.iface v x) .nilIface).run P w = .ok false w := by
  show (Op.equalIn (Nat.succ 9999) t (.iface v x) .nilIface).run P w = _
  rw [Op.equalIn.eq_2, Sem.run_bind, run_underlying ht]
  rfl
theorem prBin_ok [Env P] {op : BinOp} {t u : TypeId} {x y : Operand} (ho : o.op = .binOp op t x y u) : OpS P nt o (prBin P nt o op t x y) := by
  refine .pure fun E G s a w K hR hm => ?_
  simp only [prBin, rdV_mwp] at hm
  have hx := ev_sound hR x
  have hy := ev_sound hR y
  have fin : ∀ {p : V} {v : Value} {xv yv : Value}, a.eval x = xv → a.eval y = yv → (setD nt o.dst p .done).mwp s K → (∀ w, (binOp op t xv yv).run P w = .ok v w) → (∀ σ, Sh σ p v) → (eqGuard op t x y xv yv).run P w = .ok () w →
      ∃ p v, (setD nt o.dst p .done).mwp s K ∧ (execOp a.eval o).run P w = .ok (.value v) w ∧ RV G w s.O p v := by
    intro p v xv yv e1 e2 h1 h2 h3 h4
    exact ⟨p, v, h1, by simp [execOp, ho, e1, e2, h4, h2], .of_sh (h3 _)⟩
  unfold binK at hm
  split at hm
  · rename_i i m j n e1 e2
    rw [e1] at hx; rw [e2] at hy
    split at hm
    · rename_i hij _; subst hij
      obtain ⟨p, v, h1, h2, h3⟩ := intK_ok (op := op) (t := t) hm
      exact fin hx.int_inv hy.int_inv h1 h2 h3 (eqGuard_none w (by simp) (by simp))
    · exact hm.elim
  · rename_i l m e1 e2
    rw [e1] at hx; rw [e2] at hy
    obtain ⟨p, v, h1, h2, h3⟩ := strK_ok (op := op) (t := t) hm
    exact fin hx.str_inv hy.str_inv h1 h2 h3 (eqGuard_none w (by simp) (by simp))
  · rename_i b c e1 e2
    rw [e1] at hx; rw [e2] at hy
    split at hm
    · rename_i ht
      split at hm
      · exact fin (v := .bool (b == c)) hx.bool_inv hy.bool_inv hm (fun w => by simp only [binOp, Sem.run_bind, run_equal_bool w t b c ht]; rfl) (fun _ => .bool _) (eqGuard_none w (by simp) (by simp))
      · exact fin (v := .bool (!(b == c))) hx.bool_inv hy.bool_inv hm (fun w => by simp only [binOp, Sem.run_bind, run_equal_bool w t b c ht]; rfl) (fun _ => .bool _) (eqGuard_none w (by simp) (by simp))
      · exact hm.elim
    · exact hm.elim
  · rename_i e1 e2
    rw [e1] at hx; rw [e2] at hy
    have key : (isConst x || isConst y) = true → (∃ u, P.underlying t = some (.interface u)) → ∀ w, (eqGuard op t x y .nilIface .nilIface).run P w = .ok () w := by
      intro hc _ w
      cases x <;> cases y <;> first | (simp [isConst] at hc; done) | (cases op <;> rfl)
    split at hm
    · rename_i hc ht
      exact fin (v := .bool true) hx.nili_inv hy.nili_inv hm (fun w => by simp only [binOp, Sem.run_bind, eq_nili ht]; rfl) (fun _ => .bool _) (key hc ⟨_, ht⟩ w)
    · rename_i hc ht
      exact fin (v := .bool false) hx.nili_inv hy.nili_inv hm (fun w => by simp only [binOp, Sem.run_bind, eq_nili ht]; rfl) (fun _ => .bool _) (key hc ⟨_, ht⟩ w)
    · exact hm.elim
  · rename_i e1 e2
    rw [e1] at hx; rw [e2] at hy
    obtain ⟨t1, x1, h5⟩ := hx.ifc_inv
    split at hm
    · rename_i ht
      exact fin (v := .bool false) h5 hy.nili_inv hm (fun w => by simp only [binOp, Sem.run_bind, eq_ifc ht]; rfl) (fun _ => .bool _) (eqGuard_none w (by simp) (by simp))
    · rename_i ht
      exact fin (v := .bool true) h5 hy.nili_inv hm (fun w => by simp only [binOp, Sem.run_bind, eq_ifc ht]; rfl) (fun _ => .bool _) (eqGuard_none w (by simp) (by simp))
    · exact hm.elim
  · rename_i l m e1 e2
    rw [e1] at hx; rw [e2] at hy
    obtain ⟨xs, h5, h6⟩ := hx.agg_inv
    obtain ⟨ys, h7, h8⟩ := hy.agg_inv
    obtain ⟨r, ⟨us, vs, h9, h10, h11⟩, hm⟩ := hm
    refine ⟨.bool r, .bool r, hm, ?_, .of_sh (.bool _)⟩
    have e := h11 w x y
    rw [← scals_cells h9 h6, ← scals_cells h10 h8] at e
    simp only [Sem.run_bind] at e
    simp only [execOp, ho, h5, h7, Sem.run_bind]
    cases hg : (eqGuard op t x y (.agg xs) (.agg ys)).run P w with
    | ok u w1 => rw [hg] at e; simp only [Result.andThen_ok] at e ⊢; rw [e]; rfl
    | halt => rw [hg] at e; simp at e
  · exact hm.elim
/-- one operand -/
def prNot (nt : Nat) (o : Oper) (op : UnOp) (x : Operand) : Pr := rdV x fun v => match op, v with
  | .not, .bool b => setD nt o.dst (.bool (!b)) .done
  | .neg, .int i n => setD nt o.dst (.int i (i.wrap (0 - n))) .done
  | _, _ => .fail
theorem prNot_ok [Env P] {op : UnOp} {t : TypeId} {x : Operand} (ho : o.op = .unOp op t x) : OpS P nt o (prNot nt o op x) := by
  refine .pure fun E G s a w K hR hm => ?_
  simp only [prNot, rdV_mwp] at hm
  have hx := ev_sound hR x
  split at hm
  · rename_i b e1; rw [e1] at hx
    exact ⟨_, .bool (!b), hm, by simp only [execOp, ho, hx.bool_inv]; rfl, .of_sh (.bool _)⟩
  · rename_i i n e1; rw [e1] at hx
    exact ⟨_, .int i (i.wrap (0 - n)), hm, by simp only [execOp, ho, hx.int_inv]; rfl, .of_sh (.int _ _)⟩
  · exact hm.elim
def optV : Option Operand → (Option Int → Pr) → Pr
  | none, k => k none
  | some x, k => rdV x fun v => match v with
    | .int _ n => k (some n)
    | _ => .fail
theorem optV_spec {E : Ent} {G : Gh} {s : St} {a : Act} {w : World} {K : St → Prop} (hR : RG E G s a w) {x : Option Operand} {k : Option Int → Pr} (h : (optV x k).mwp s K) :
    (x = none ∧ (k none).mwp s K) ∨ ∃ y i n, x = some y ∧ a.eval y = .int i n ∧ (k (some n)).mwp s K := by
  cases x with
  | none => exact .inl ⟨rfl, h⟩
  | some y =>
    simp only [optV, rdV_mwp] at h
    have hy := ev_sound hR y
    split at h
    · rename_i i n e; rw [e] at hy; exact .inr ⟨y, i, n, rfl, hy.int_inv, h⟩
    · exact h.elim
theorem run_sliceBound {i : IntKind} {n : Int} {m : Nat} {c : BoundsCode} (w : World) (h0 : 0 ≤ n) (h1 : n ≤ m) : (Instr.sliceBound (.int i n) m c).run P w = .ok n.toNat w := by
  simp [Instr.sliceBound, asIntOf, h0, h1]
/-- the bounds of a slice of so many -/
def cutOk (len : Nat) : Option Int → Option Int → Prop
  | none, none => True
  | some a, none => 0 ≤ a ∧ a ≤ len
  | none, some b => 0 ≤ b ∧ b ≤ len
  | some a, some b => 0 ≤ a ∧ a ≤ b ∧ b ≤ len
def cutL {α : Type} (l : List α) : Option Int → Option Int → List α
  | none, none => l
  | some a, none => l.drop a.toNat
  | none, some b => l.take b.toNat
  | some a, some b => (l.take b.toNat).drop a.toNat
def loOf : Option Int → Nat
  | none => 0
  | some a => a.toNat
def hiOf (len : Nat) : Option Int → Nat
  | none => len
  | some b => b.toNat
theorem cutOk.le {len : Nat} {a b : Option Int} (h : cutOk len a b) : loOf a ≤ hiOf len b ∧ hiOf len b ≤ len := by
  cases a <;> cases b <;> simp only [cutOk, loOf, hiOf] at h ⊢ <;> omega
theorem cutL_eq {α : Type} (l : List α) (a b : Option Int) : cutL l a b = (l.take (hiOf l.length b)).drop (loOf a) := by
  cases a <;> cases b <;> simp [cutL, loOf, hiOf]
/-- bounds as values -/
def Bnd (ρ : Operand → Value) : Option Operand → Option Int → Prop
  | none, none => True
  | some x, some n => ∃ i, ρ x = .int i n
  | _, _ => False
theorem run_sliceBounds {ρ : Operand → Value} {lo hi : Option Operand} {a b : Option Int} {sl : Bool} {len cap : Nat} (w : World) (ha : Bnd ρ lo a) (hb : Bnd ρ hi b) (hc : cutOk len a b) (hle : len ≤ cap) :
    (Instr.sliceBounds sl len cap (lo.map ρ) (hi.map ρ) none).run P w = .ok (loOf a, hiOf len b, cap) w := by
  have h2 := hc.le
  unfold Instr.sliceBounds
  cases lo <;> cases a <;> simp only [Bnd] at ha <;> cases hi <;> cases b <;> simp only [Bnd] at hb <;> simp only [cutOk] at hc
  · simp [loOf, hiOf]
  · obtain ⟨i, hb⟩ := hb
    simp [loOf, hiOf, hb, run_sliceBound (P := P) (i := i) w hc.1 (show _ ≤ (cap : Int) by omega)]
  · obtain ⟨i, ha⟩ := ha
    simp [loOf, hiOf, ha, run_sliceBound (P := P) (i := i) w hc.1 hc.2]
  · obtain ⟨i, ha⟩ := ha
    obtain ⟨j, hb⟩ := hb
    rename_i x m y n
    have h1 : (m : Int) ≤ ((n.toNat : Nat) : Int) := by omega
    simp [loOf, hiOf, ha, hb, run_sliceBound (P := P) (i := j) w (show 0 ≤ n by omega) (show n ≤ (cap : Int) by omega), run_sliceBound (P := P) (i := i) w hc.1 h1]
end
end Go.PV
namespace Go.PV
open Go Go.RowKit
def szK (P : Program) (t : TypeId) (k : Nat → Pr) : Pr := match P.toTables.info? t with
  | some i => k i.size
  | none => .fail
theorem szK_spec {P : Program} {t : TypeId} {k : Nat → Pr} {s : St} {K : St → Prop} (h : (szK P t k).mwp s K) : ∃ i, P.toTables.info? t = some i ∧ (k i.size).mwp s K := by
  unfold szK at h; split at h
  · rename_i i hi; exact ⟨i, hi, h⟩
  · exact h.elim
theorem run_sizeOf {P : Program} {t : TypeId} {i : TypeInfo} (h : P.toTables.info? t = some i) (w : World) : (Go.sizeOf t).run P w = .ok i.size w := by simp [Go.sizeOf, typeInfo, h]
def aggK (P : Program) (t : TypeId) (k : Bool → Pr) : Pr := match P.underlying t with
  | some (.struct _) => k true
  | some (.array _ _) => k true
  | some _ => k false
  | none => .fail
theorem aggK_spec {P : Program} {t : TypeId} {k : Bool → Pr} {s : St} {K : St → Prop} (h : (aggK P t k).mwp s K) : ∃ b, (∀ w, (isAgg t).run P w = .ok b w) ∧ (k b).mwp s K := by
  unfold aggK at h; split at h
  · rename_i f hf; exact ⟨true, fun w => by simp [isAgg, run_underlying hf], h⟩
  · rename_i n e hf; exact ⟨true, fun w => by simp [isAgg, run_underlying hf], h⟩
  · rename_i d h1 h2 hf
    refine ⟨false, fun w => ?_, h⟩
    simp only [isAgg, Sem.run_bind, run_underlying hf, Result.andThen_ok]
    rfl
  · exact h.elim
def cutK {α : Type} (l : List α) (a b : Option Int) (k : List α → Pr) : Pr := match a, b with
  | none, none => k l
  | some a, none => k (l.drop a.toNat)
  | none, some b => k (l.take b.toNat)
  | some a, some b => k ((l.take b.toNat).drop a.toNat)
theorem cutK_eq {α : Type} (l : List α) (a b : Option Int) (k : List α → Pr) : cutK l a b k = k (cutL l a b) := by cases a <;> cases b <;> rfl
def okK (len : Nat) (a b : Option Int) (k : Pr) : Pr := match a, b with
  | none, none => k
  | some a, none => .ex PUnit (fun _ => 0 ≤ a ∧ a ≤ len) fun _ => k
  | none, some b => .ex PUnit (fun _ => 0 ≤ b ∧ b ≤ len) fun _ => k
  | some a, some b => .ex PUnit (fun _ => 0 ≤ a ∧ a ≤ b ∧ b ≤ len) fun _ => k
theorem okK_spec {len : Nat} {a b : Option Int} {k : Pr} {s : St} {K : St → Prop} (h : (okK len a b k).mwp s K) : cutOk len a b ∧ k.mwp s K := by
  cases a <;> cases b <;> simp only [okK] at h
  · exact ⟨trivial, h⟩
  · obtain ⟨_, h1, h2⟩ := h; exact ⟨h1, h2⟩
  · obtain ⟨_, h1, h2⟩ := h; exact ⟨h1, h2⟩
  · obtain ⟨_, h1, h2⟩ := h; exact ⟨h1, h2⟩
theorem str_extract (l : List UInt8) (a b : Nat) : (⟨l.toArray⟩ : ByteArray).extract a b = ⟨((l.take b).drop a).toArray⟩ := by
  apply ByteArray.ext
  rw [ByteArray.data_extract]
  simp [List.drop_take]
theorem str_size (l : List UInt8) : (⟨l.toArray⟩ : ByteArray).size = l.length := by simp [ByteArray.size]
theorem Addr.add_none (b off k : Nat) : (⟨b, off, none⟩ : Addr).add k = ⟨b, off + k, none⟩ := by unfold Addr.add; split <;> simp_all
theorem mul_at {n L i j : Nat} (hi : i < L) (hj : j < n) : i * n + j < L * n := by
  have : (i + 1) * n ≤ L * n := Nat.mul_le_mul_right n hi
  rw [Nat.add_mul, Nat.one_mul] at this; omega
/-- a part of a shared slice is one -/
theorem Sh.cut {σ : Nat → Nat → Value → Prop} {n : Nat} {xs : List (List V)} {v : Value} (h : Sh σ (.sl n xs) v) {lo hi : Nat} (h1 : lo ≤ hi) (h2 : hi ≤ xs.length) :
    ∃ a len cap, v = .slice a len cap ∧ len = xs.length ∧ len ≤ cap ∧ Sh σ (.sl n ((xs.take hi).drop lo)) (.slice (if cap = lo then a else a.map (·.add (lo * n))) (hi - lo) (cap - lo)) := by
  have hlen : ((xs.take hi).drop lo).length = hi - lo := by simp; omega
  have hget : ∀ i, ((xs.take hi).drop lo)[i]? = if i < hi - lo then xs[lo + i]? else none := by
    intro i; rw [List.getElem?_drop, List.getElem?_take]; split <;> split <;> first | rfl | omega
  cases h with
  | sl0 =>
    refine ⟨_, _, _, rfl, rfl, Nat.zero_le _, ?_⟩
    simp at h2; subst h2
    have : lo = 0 := by omega
    subst this
    exact .sl0 _ _ _
  | sl _ _ b off cap c h0 hl hc hs hh =>
    refine ⟨_, _, _, rfl, rfl, hc, ?_⟩
    by_cases e : cap = lo
    · rw [if_pos e, ← hlen]
      have hz : hi - lo = 0 := by omega
      refine .sl n _ b off _ c h0 (fun i x hx => ?_) (by rw [hlen]; omega) (fun i x j p hx => ?_) (fun i x j p hx => ?_) <;> (rw [hget, if_neg (by omega)] at hx; cases hx)
    · rw [if_neg e, ← hlen]
      simp only [Option.map_some, Addr.add_none]
      refine .sl n _ b (off + lo * n) _ (fun i j => c (lo + i) j) h0 (fun i x hx => ?_) (by rw [hlen]; omega) (fun i x j p hx hj => ?_) (fun i x j p hx hj => ?_)
      · rw [hget] at hx; split at hx
        · exact hl _ _ hx
        · cases hx
      · rw [hget] at hx; split at hx
        · have := hs _ _ _ _ hx hj
          rw [Nat.add_mul] at this
          rw [show off + lo * n + i * n + j = off + (lo * n + i * n) + j by omega]; exact this
        · cases hx
      · rw [hget] at hx; split at hx
        · exact hh _ _ _ _ hx hj
        · cases hx
section
variable {P : Program} {nt : Nat} {o : Oper}
theorem optV_bnd {E : Ent} {G : Gh} {s : St} {a : Act} {w : World} {K : St → Prop} (hR : RG E G s a w) {x : Option Operand} {k : Option Int → Pr} (h : (optV x k).mwp s K) :
    ∃ n, Bnd a.eval x n ∧ (k n).mwp s K := by
  rcases optV_spec hR h with ⟨rfl, h⟩ | ⟨y, i, n, rfl, h1, h⟩
  · exact ⟨none, trivial, h⟩
  · exact ⟨some n, ⟨i, h1⟩, h⟩
def prCutStr (P : Program) (nt : Nat) (o : Oper) (t : TypeId) (l : List UInt8) (a b : Option Int) : Pr := match P.underlying t with
  | some .string => okK l.length a b (cutK l a b fun m => setD nt o.dst (.str m) .done)
  | _ => .fail
def prCutSl (P : Program) (nt : Nat) (o : Oper) (t : TypeId) (n : Nat) (xs : List (List V)) (a b : Option Int) : Pr := match P.underlying t with
  | some (.slice e) => szK P e fun m => match Nat.beq m n with
    | true => okK xs.length a b (cutK xs a b fun ys => setD nt o.dst (.sl n ys) .done)
    | false => .fail
  | _ => .fail
theorem cut_str {t : TypeId} {x : Operand} {lo hi : Option Operand} (ho : o.op = .slice t x lo hi none) {G : Gh} {s : St} {a : Act} {w : World} {K : St → Prop} {l : List UInt8} (hx : RV G w s.O (.str l) (a.eval x)) {m n : Option Int}
    (hm : Bnd a.eval lo m) (hn : Bnd a.eval hi n) (h : (prCutStr P nt o t l m n).mwp s K) : ∃ p v, (setD nt o.dst p .done).mwp s K ∧ (execOp a.eval o).run P w = .ok (.value v) w ∧ RV G w s.O p v := by
  unfold prCutStr at h
  split at h
  · rename_i ht
    obtain ⟨h1, h⟩ := okK_spec h
    rw [cutK_eq] at h
    refine ⟨_, .string ⟨(cutL l m n).toArray⟩, h, ?_, .of_sh (.str _)⟩
    have hb := run_sliceBounds (P := P) (sl := false) (cap := l.length) w hm hn h1 (Nat.le_refl _)
    simp only [execOp, ho, hx.str_inv, Instr.sliceAt, Instr.slice, Sem.run_bind, run_underlying ht, Result.andThen_ok, str_size, hb, Option.map_none, Option.isSome_none, Bool.false_eq_true, if_false, str_extract, cutL_eq, Sem.run_pure]
  · exact h.elim
theorem cut_sl {t : TypeId} {x : Operand} {lo hi : Option Operand} (ho : o.op = .slice t x lo hi none) {G : Gh} {s : St} {a : Act} {w : World} {K : St → Prop} {c : Nat} {xs : List (List V)} (hx : RV G w s.O (.sl c xs) (a.eval x)) {m n : Option Int}
    (hm : Bnd a.eval lo m) (hn : Bnd a.eval hi n) (h : (prCutSl P nt o t c xs m n).mwp s K) : ∃ p v, (setD nt o.dst p .done).mwp s K ∧ (execOp a.eval o).run P w = .ok (.value v) w ∧ RV G w s.O p v := by
  unfold prCutSl at h
  split at h
  · rename_i e ht
    obtain ⟨i, hi1, h⟩ := szK_spec h
    split at h
    · rename_i hsz
      have hsz := Nat.eq_of_beq_eq_true hsz
      obtain ⟨h1, h⟩ := okK_spec h
      rw [cutK_eq, cutL_eq] at h
      obtain ⟨ad, len, cap, h2, h3, h4, h5⟩ := hx.sl_inv.cut h1.le.1 h1.le.2
      refine ⟨_, _, h, ?_, .of_sh h5⟩
      subst h3
      have hb := run_sliceBounds (P := P) (sl := true) w hm hn h1 h4
      simp only [execOp, ho, h2, Instr.sliceAt, Instr.slice, Sem.run_bind, run_underlying ht, Result.andThen_ok, hb, Option.map_none, run_sizeOf hi1, Sem.run_pure, hsz]
    · exact h.elim
  · exact h.elim
/-- a byte of a string -/
def prIndex (P : Program) (nt : Nat) (o : Oper) (t : TypeId) (x ix : Operand) : Pr := rdV x fun v => rdV ix fun u => match v, u with
  | .str l, .int _ i => match P.underlying t with
    | some .string => .ex UInt8 (fun b => 0 ≤ i ∧ l[i.toNat]? = some b) fun b => setD nt o.dst (.int .u8 b.toNat) .done
    | _ => .fail
  | _, _ => .fail
theorem str_at (l : List UInt8) (i : Nat) : (⟨l.toArray⟩ : ByteArray)[i]? = l[i]? := by
  by_cases h : i < l.length
  · rw [getElem?_pos (⟨l.toArray⟩ : ByteArray) i (by simpa [str_size] using h), List.getElem?_eq_getElem h]; rfl
  · rw [getElem?_neg (⟨l.toArray⟩ : ByteArray) i (by simpa [str_size] using h), List.getElem?_eq_none (by omega)]
theorem prIndex_ok [Env P] {t : TypeId} {x ix : Operand} (ho : o.op = .index t x ix) : OpS P nt o (prIndex P nt o t x ix) := by
  refine .pure fun E G s a w K hR hm => ?_
  simp only [prIndex, rdV_mwp] at hm
  have hx := ev_sound hR x
  have hy := ev_sound hR ix
  split at hm
  · rename_i l k i e1 e2
    rw [e1] at hx; rw [e2] at hy
    split at hm
    · rename_i ht
      obtain ⟨b, ⟨h1, h2⟩, hm⟩ := hm
      refine ⟨_, .int .u8 b.toNat, hm, ?_, .of_sh (.int _ _)⟩
      simp only [execOp, ho, hx.str_inv, hy.int_inv, Instr.index, asIntOf, Sem.run_bind, Sem.run_pure, Result.andThen_ok, run_underlying ht, if_pos h1, str_at, h2]
    · exact hm.elim
  · exact hm.elim
/-- a part of a tuple -/
def prExtract (nt : Nat) (o : Oper) (x : Operand) (i : Nat) : Pr := rdV x fun v => match v with
  | .tup l => match l[i]? with
    | some p => setD nt o.dst p .done
    | none => .fail
  | _ => .fail
theorem prExtract_ok [Env P] {x : Operand} {i : Nat} (ho : o.op = .extract x i) : OpS P nt o (prExtract nt o x i) := by
  refine .pure fun E G s a w K hR hm => ?_
  simp only [prExtract, rdV_mwp] at hm
  have hx := ev_sound hR x
  split at hm
  · rename_i l e1
    rw [e1] at hx
    obtain ⟨cs, h1, h2⟩ := hx.tup_inv
    split at hm
    · rename_i p hp
      obtain ⟨c, h3, h4⟩ := h2.2 i p hp
      exact ⟨p, c, hm, by simp [execOp, ho, h1, Instr.extract, h3], .any _ _ h4⟩
    · exact hm.elim
  · exact hm.elim
end
end Go.PV
namespace Go.PV
open Go Go.RowKit
theorem Cells.cut {R : V → Value → Prop} {l : List V} {cs : Array Value} (h : Cells R l cs) (off n : Nat) : Cells R ((l.drop off).take n) (cs.extract off (off + n)) := by
  refine ⟨by simp [h.1]; omega, fun j p hj => ?_⟩
  rw [List.getElem?_take] at hj
  split at hj
  · rename_i hjn
    rw [List.getElem?_drop] at hj
    obtain ⟨c, h1, h2⟩ := h.2 _ _ hj
    refine ⟨c, ?_, h2⟩
    rw [Array.getElem?_extract]
    have := (Array.getElem?_eq_some_iff.1 h1).1
    rw [if_pos (by omega)]; exact h1
  · cases hj
theorem run_load_cells {P : Program} {w : World} {b off : Nat} {R : V → Value → Prop} {l : List V} (h : ∀ (j : Nat) (p : V), l[j]? = some p → ∃ c, w.cell? ⟨b, off + j, none⟩ = some c ∧ R p c) :
    ∃ cs, (loadCells ⟨b, off, none⟩ l.length).run P w = .ok cs w ∧ Cells R l cs := by
  have hf : ∀ j, j < l.length → ∃ c, w.cell? ⟨b, off + j, none⟩ = some c := fun j hj => let ⟨c, h1, _⟩ := h j _ (List.getElem?_eq_getElem hj); ⟨c, h1⟩
  refine ⟨_, run_loadCells w ⟨b, off, none⟩ l.length (fun j => (w.cell? ⟨b, off + j, none⟩).getD undef) (fun j hj => ?_), by simp, fun j p hj => ?_⟩
  · obtain ⟨c, hc⟩ := hf j hj; rw [Addr.add_none, hc]; rfl
  · obtain ⟨c, h1, h2⟩ := h j p hj
    have hlt : j < l.length := (List.getElem?_eq_some_iff.1 hj).1
    exact ⟨c, by simp [hlt, h1], h2⟩
/-- of the cells from a place on: a value of a type -/
def ldK (P : Program) (t : TypeId) (m : List V) (k : V → Pr) : Pr := aggK P t fun ag => match ag with
  | true => szK P t fun n => force (m.take n) fun m' => match Nat.beq m'.length n with
    | true => k (.agg m')
    | false => .fail
  | false => match m with
    | p :: _ => k p
    | [] => .fail
section
variable {P : Program} {nt : Nat} {o : Oper}
theorem ldK_ok {t : TypeId} {m : List V} {k : V → Pr} {s : St} {K : St → Prop} {G : Gh} {w : World} {b off : Nat} (h : (ldK P t m k).mwp s K)
    (hc : ∀ (j : Nat) (p : V), m[j]? = some p → ∃ c, w.cell? ⟨b, off + j, none⟩ = some c ∧ RC G w s.O p c) : ∃ p v, (k p).mwp s K ∧ (loadVar t ⟨b, off, none⟩).run P w = .ok v w ∧ RV G w s.O p v := by
  obtain ⟨ag, h1, h⟩ := aggK_spec h
  cases ag with
  | true =>
    obtain ⟨i, h2, h⟩ := szK_spec h
    rw [force_eq] at h
    split at h
    · rename_i hn
      have hn := Nat.eq_of_beq_eq_true hn
      obtain ⟨cs, h3, h4⟩ := run_load_cells (P := P) (w := w) (b := b) (off := off) (R := RC G w s.O) (l := m.take i.size) (fun j p hj => hc j p (by rw [List.getElem?_take] at hj; split at hj <;> simp_all))
      exact ⟨_, .agg cs, h, by rw [hn] at h3; simp [loadVar, h1, run_sizeOf h2, h3], .any _ _ (.agg _ _ h4)⟩
    · exact h.elim
  | false =>
    dsimp only at h
    split at h
    · obtain ⟨c, h3, h4⟩ := hc 0 _ rfl
      exact ⟨_, c, h, by rw [Nat.add_zero] at h3; simp [loadVar, h1, h3], .any _ _ (.cell _ _ h4)⟩
    · exact h.elim
theorem RV.ptr_inv {G : Gh} {w : World} {O : Tb} {id gen off : Nat} {v : Value} {cells : List V} (h : RV G w O (.ptr id gen off) v) (ho : O id = some (.box gen cells)) : v = .pointer (some ⟨G.blk id, off, none⟩) := by
  cases h with | any _ _ h => cases h with | cell _ _ h => cases h with
    | sh _ _ h => cases h
    | ptr _ _ _ o' _ _ h1 _ h2 => rw [ho] at h1; cases h1; exact h2 rfl rfl
theorem RV.own_inv {G : Gh} {w : World} {O : Tb} {id gen n : Nat} {sh : Bool} {v : Value} {xs : List (List V)} (h : RV G w O (.own id gen) v) (ho : O id = some (.arr gen sh n xs)) : v = hdr G id xs.length := by
  cases h with | any _ _ h => cases h with | cell _ _ h => cases h with
    | sh _ _ h => cases h
    | own _ _ o' _ _ h1 _ h2 => rw [ho] at h1; cases h1; exact h2 n xs.length rfl rfl
theorem RV.elp_inv {G : Gh} {w : World} {O : Tb} {id gen i off n : Nat} {sh : Bool} {v : Value} {xs : List (List V)} (h : RV G w O (.elp id gen i off) v) (ho : O id = some (.arr gen sh n xs)) : G.isnil id = false ∧ v = .pointer (some ⟨G.blk id, i * n + off, none⟩) := by
  cases h with
  | any _ _ h => cases h with | cell _ _ h => cases h with | sh _ _ h => cases h
  | elp _ _ _ _ o' _ h1 _ h2 => rw [ho] at h1; cases h1; exact h2 n xs.length rfl rfl
theorem RV.rp_inv {G : Gh} {w : World} {O : Tb} {l : List V} {v : Value} (h : RV G w O (.rp l) v) : ∃ b off, v = .pointer (some ⟨b, off, none⟩) ∧ ∀ (j : Nat) (p : V), l[j]? = some p → ∃ c, stab G w b (off + j) c ∧ Sh (stab G w) p c := by
  cases h with
  | any _ _ h => cases h with | cell _ _ h => cases h with | sh _ _ h => cases h
  | rp _ b off h => exact ⟨b, off, rfl, h⟩
theorem RV.fn_inv {G : Gh} {w : World} {O : Tb} {f : FuncId} {l : List V} {v : Value} (h : RV G w O (.fn f l) v) : ∃ cs, v = .func (.func f) #[] cs ∧ Cells (RC G w O) l cs := by
  cases h with | any _ _ h => cases h with | cell _ _ h => cases h with
    | sh _ _ h => cases h with | fn => exact ⟨#[], rfl, rfl, fun j p hj => by simp at hj⟩
    | fn _ _ cs c hl hc hh => exact ⟨cs, rfl, hl, fun j p hj => ⟨c j, hc j (List.getElem?_eq_some_iff.1 hj).1, hh j p hj⟩⟩
/-- a box, if it is the one of that time -/
def boxK (id gen : Nat) (k : List V → Pr) : Pr := .getO id fun o => match o with
  | some (.box g cells) => match Nat.beq g gen with
    | true => match cells with
      | .md _ :: _ => .fail
      | cells => k cells
    | false => .fail
  | _ => .fail
def NotMd (l : List V) : Prop := ∀ d r, l ≠ .md d :: r
def arrK (id gen : Nat) (k : Bool → Nat → List (List V) → Pr) : Pr := .getO id fun o => match o with
  | some (.arr g sh n xs) => match Nat.beq g gen with
    | true => k sh n xs
    | false => .fail
  | _ => .fail
theorem boxK_spec {id gen : Nat} {k : List V → Pr} {s : St} {K : St → Prop} (h : (boxK id gen k).mwp s K) : ∃ cells, s.O id = some (.box gen cells) ∧ NotMd cells ∧ (k cells).mwp s K := by
  simp only [boxK, Pr.mwp] at h
  split at h
  · rename_i g cells e
    split at h
    · rename_i hg
      have hg := Nat.eq_of_beq_eq_true hg
      subst hg
      split at h
      · exact h.elim
      · rename_i hn
        exact ⟨cells, e, fun d r e => hn d r e, h⟩
    · exact h.elim
  · exact h.elim
theorem arrK_spec {id gen : Nat} {k : Bool → Nat → List (List V) → Pr} {s : St} {K : St → Prop} (h : (arrK id gen k).mwp s K) : ∃ sh n xs, s.O id = some (.arr gen sh n xs) ∧ (k sh n xs).mwp s K := by
  simp only [arrK, Pr.mwp] at h
  split at h
  · rename_i g sh n xs e
    split at h
    · rename_i hg; have hg := Nat.eq_of_beq_eq_true hg; subst hg; exact ⟨sh, n, xs, e, h⟩
    · exact h.elim
  · exact h.elim
theorem RG.box_cells {E : Ent} {G : Gh} {s : St} {a : Act} {w : World} (h : RG E G s a w) {id gen : Nat} {cells : List V} (ho : s.O id = some (.box gen cells)) (hn : NotMd cells) (j : Nat) (p : V) (hj : cells[j]? = some p) : ∃ c, w.cell? ⟨G.blk id, j, none⟩ = some c ∧ RC G w s.O p c := by
  cases h.ob id _ ho with
  | box _ _ cs T hb hw hc => obtain ⟨c, h1, h2⟩ := hc.2 j p hj; exact ⟨c, by rw [cell_of_row w _ j cs T _ hb]; exact h1, h2⟩
  | mp => exact absurd rfl (hn _ _)
theorem RG.arr_cells {E : Ent} {G : Gh} {s : St} {a : Act} {w : World} (h : RG E G s a w) {id gen n : Nat} {sh : Bool} {xs : List (List V)} (ho : s.O id = some (.arr gen sh n xs)) (i : Nat) (x : List V) (hi : xs[i]? = some x) (j : Nat) (p : V) (hj : x[j]? = some p) : ∃ c, w.cell? ⟨G.blk id, i * n + j, none⟩ = some c ∧ Sh (stab G w) p c := by
  cases h.ob id _ ho with
  | nil => simp at hi
  | arr _ _ _ _ cs T lim hn hb hw h0 hl hc hz hs ht hh => obtain ⟨c, h1, h2⟩ := hh i x j p hi hj; exact ⟨c, by rw [cell_of_row w _ _ cs T _ hb]; exact h1, h2⟩
def prLoad (P : Program) (nt : Nat) (o : Oper) (t : TypeId) (x : Operand) : Pr := rdV x fun v => match v with
  | .ptr id gen off => boxK id gen fun cells => ldK P t (cells.drop off) fun p => setD nt o.dst p .done
  | .rp l => ldK P t l fun p => setD nt o.dst p .done
  | .elp id gen i off => arrK id gen fun _ _ xs => .ex (List V) (fun y => xs[i]? = some y) fun y => ldK P t (y.drop off) fun p => setD nt o.dst p .done
  | _ => .fail
theorem prLoad_ok [Env P] {t : TypeId} {x : Operand} (ho : o.op = .load t x) : OpS P nt o (prLoad P nt o t x) := by
  refine .pure fun E G s a w K hR hm => ?_
  simp only [prLoad, rdV_mwp] at hm
  have hx := ev_sound hR x
  have fin : ∀ {b off : Nat} {m : List V}, a.eval x = .pointer (some ⟨b, off, none⟩) → (ldK P t m fun p => setD nt o.dst p .done).mwp s K → (∀ (j : Nat) (p : V), m[j]? = some p → ∃ c, w.cell? ⟨b, off + j, none⟩ = some c ∧ RC G w s.O p c) →
      ∃ p v, (setD nt o.dst p .done).mwp s K ∧ (execOp a.eval o).run P w = .ok (.value v) w ∧ RV G w s.O p v := by
    intro b off m e h hc
    obtain ⟨p, v, h1, h2, h3⟩ := ldK_ok h hc
    exact ⟨p, v, h1, by simp [execOp, ho, e, Instr.loadAt, Instr.sureAddr, h2], h3⟩
  split at hm
  · rename_i id gen off e1
    rw [e1] at hx
    obtain ⟨cells, h1, hn, h2⟩ := boxK_spec hm
    exact fin (hx.ptr_inv h1) h2 fun j p hj => hR.box_cells h1 hn _ p (by rw [List.getElem?_drop] at hj; exact hj)
  · rename_i l e1
    rw [e1] at hx
    obtain ⟨b, off, h1, h2⟩ := hx.rp_inv
    exact fin h1 hm fun j p hj => let ⟨c, h3, h4⟩ := h2 j p hj; ⟨c, h3.2, .sh _ _ h4⟩
  · rename_i id gen i off e1
    rw [e1] at hx
    obtain ⟨sh, n, xs, h1, y, hy, h2⟩ := arrK_spec hm
    obtain ⟨_, h3⟩ := hx.elp_inv h1
    exact fin h3 h2 fun j p hj => by
      rw [List.getElem?_drop] at hj
      obtain ⟨c, h4, h5⟩ := hR.arr_cells h1 i y hy _ p hj
      exact ⟨c, by rw [Nat.add_assoc]; exact h4, .sh _ _ h5⟩
  · exact hm.elim
/-- a field of a struct in a slot -/
def fieldK (P : Program) (t : TypeId) (f : Nat) (k : Field → Pr) : Pr := match P.underlying t with
  | some (.struct fs) => match fs[f]? with
    | some fd => k fd
    | none => .fail
  | _ => .fail
theorem fieldK_spec {t : TypeId} {f : Nat} {k : Field → Pr} {s : St} {K : St → Prop} (h : (fieldK P t f k).mwp s K) : ∃ fs fd, P.underlying t = some (.struct fs) ∧ fs[f]? = some fd ∧ (k fd).mwp s K := by
  unfold fieldK at h
  split at h
  · rename_i fs e
    split at h
    · rename_i fd e2; exact ⟨fs, fd, e, e2, h⟩
    · exact h.elim
  · exact h.elim
def prField (P : Program) (nt : Nat) (o : Oper) (t : TypeId) (x : Operand) (f : Nat) : Pr := rdV x fun v => match v with
  | .agg l => fieldK P t f fun fd => aggK P fd.type fun ag => match ag with
    | true => szK P fd.type fun n => force ((l.drop fd.offset).take n) fun m => setD nt o.dst (.agg m) .done
    | false => match l[fd.offset]? with
      | some p => setD nt o.dst p .done
      | none => .fail
  | _ => .fail
theorem prField_ok [Env P] {t : TypeId} {x : Operand} {f : Nat} (ho : o.op = .field t x f) : OpS P nt o (prField P nt o t x f) := by
  refine .pure fun E G s a w K hR hm => ?_
  simp only [prField, rdV_mwp] at hm
  have hx := ev_sound hR x
  split at hm
  · rename_i l e1
    rw [e1] at hx
    obtain ⟨cs, h1, h2⟩ := hx.agg_inv
    obtain ⟨fs, fd, h3, h4, hm⟩ := fieldK_spec hm
    obtain ⟨ag, h5, hm⟩ := aggK_spec hm
    cases ag with
    | true =>
      obtain ⟨i, h6, hm⟩ := szK_spec hm
      rw [force_eq] at hm
      exact ⟨_, .agg (cs.extract fd.offset (fd.offset + i.size)), hm, by simp [execOp, ho, h1, Instr.field, run_underlying h3, h4, asAgg, part, h5, run_sizeOf h6], .any _ _ (.agg _ _ (h2.cut _ _))⟩
    | false =>
      dsimp only at hm
      split at hm
      · rename_i p hp
        obtain ⟨c, h6, h7⟩ := h2.2 _ p hp
        exact ⟨p, c, hm, by simp [execOp, ho, h1, Instr.field, run_underlying h3, h4, asAgg, part, h5, h6], .any _ _ (.cell _ _ h7)⟩
      · exact hm.elim
  · exact hm.elim
/-- a field's address -/
def prFieldAddr (P : Program) (nt : Nat) (o : Oper) (t : TypeId) (x : Operand) (f : Nat) : Pr := rdV x fun v => fieldK P t f fun fd => szK P fd.type fun n => match n with
  | 0 => .fail
  | _ + 1 => match v with
    | .ptr id gen off => boxK id gen fun _ => setD nt o.dst (.ptr id gen (off + fd.offset)) .done
    | .elp id gen i off => arrK id gen fun _ _ _ => setD nt o.dst (.elp id gen i (off + fd.offset)) .done
    | .rp l => force (l.drop fd.offset) fun m => setD nt o.dst (.rp m) .done
    | _ => .fail
theorem prFieldAddr_ok [Env P] {t : TypeId} {x : Operand} {f : Nat} (ho : o.op = .fieldAddr t x f) : OpS P nt o (prFieldAddr P nt o t x f) := by
  refine .pure fun E G s a w K hR hm => ?_
  simp only [prFieldAddr, rdV_mwp] at hm
  have hx := ev_sound hR x
  obtain ⟨fs, fd, h3, h4, hm⟩ := fieldK_spec hm
  obtain ⟨i, h5, hm⟩ := szK_spec hm
  split at hm
  · exact hm.elim
  · rename_i n hn
    have run : ∀ {b off : Nat}, a.eval x = .pointer (some ⟨b, off, none⟩) → (execOp a.eval o).run P w = .ok (.value (.pointer (some ⟨b, off + fd.offset, none⟩))) w := by
      intro b off e
      simp [execOp, ho, e, Instr.fieldAt, run_underlying h3, h4, Instr.sureAddr, fieldPlace, run_sizeOf h5, hn, Addr.add_none]
    split at hm
    · rename_i id gen off e1
      rw [e1] at hx
      obtain ⟨cells, h1, _, hm⟩ := boxK_spec hm
      exact ⟨_, _, hm, run (hx.ptr_inv h1), .any _ _ (.cell _ _ (.ptr _ _ _ _ _ rfl h1 (Nat.le_refl _) fun _ _ => rfl))⟩
    · rename_i id gen i off e1
      rw [e1] at hx
      obtain ⟨sh, c, xs, h1, hm⟩ := arrK_spec hm
      obtain ⟨h6, h7⟩ := hx.elp_inv h1
      refine ⟨_, _, hm, run h7, .elp _ _ _ _ _ _ h1 (Nat.le_refl _) fun m len _ e => ?_⟩
      simp only [Ob.sig, Option.some.injEq, Prod.mk.injEq] at e
      rw [← e.1, Nat.add_assoc]; exact ⟨h6, rfl⟩
    · rename_i l e1
      rw [e1] at hx
      rw [force_eq] at hm
      obtain ⟨b, off, h1, h2⟩ := hx.rp_inv
      refine ⟨_, _, hm, run h1, .rp _ _ _ fun j p hj => ?_⟩
      rw [List.getElem?_drop] at hj
      rw [Nat.add_assoc]; exact h2 _ _ hj
    · exact hm.elim
/-- an element's address -/
def prIndexAddr (P : Program) (nt : Nat) (o : Oper) (t : TypeId) (x ix : Operand) : Pr := rdV x fun v => rdV ix fun u => match P.underlying t, u with
  | some (.slice e), .int _ i => szK P e fun m => match v with
    | .sl n xs => match Nat.beq m n with
      | true => .ex (List V) (fun y => 0 ≤ i ∧ xs[i.toNat]? = some y) fun y => setD nt o.dst (.rp y) .done
      | false => .fail
    | .own id gen => arrK id gen fun _ n xs => match Nat.beq m n with
      | true => .ex PUnit (fun _ => 0 ≤ i ∧ i < xs.length) fun _ => setD nt o.dst (.elp id gen i.toNat 0) .done
      | false => .fail
    | _ => .fail
  | _, _ => .fail
theorem prIndexAddr_ok [Env P] {t : TypeId} {x ix : Operand} (ho : o.op = .indexAddr t x ix) : OpS P nt o (prIndexAddr P nt o t x ix) := by
  refine .pure fun E G s a w K hR hm => ?_
  simp only [prIndexAddr, rdV_mwp] at hm
  have hx := ev_sound hR x
  have hy := ev_sound hR ix
  split at hm
  · rename_i e k i ht e2
    rw [e2] at hy
    obtain ⟨ei, h3, hm⟩ := szK_spec hm
    have run : ∀ {b off len cap : Nat}, a.eval x = .slice (some ⟨b, off, none⟩) len cap → 0 ≤ i → i < len → (execOp a.eval o).run P w = .ok (.value (.pointer (some ⟨b, off + i.toNat * ei.size, none⟩))) w := by
      intro b off len cap ex h0 h1
      have h2 : (0 ≤ i ∧ i < (len : Int)) := ⟨h0, h1⟩
      simp [execOp, ho, ex, hy.int_inv, Instr.indexAt, asIntOf, run_underlying ht, h2, run_sizeOf h3, Addr.add_none]
    split at hm
    · rename_i n xs e1
      rw [e1] at hx
      split at hm
      · rename_i hn
        have hn := Nat.eq_of_beq_eq_true hn
        obtain ⟨y, ⟨h4, h5⟩, hm⟩ := hm
        have hlt := (List.getElem?_eq_some_iff.1 h5).1
        cases hv : a.eval x with
        | slice ad len cap =>
          have hs := hx.sl_inv
          rw [hv] at hs
          cases hs with
          | sl0 => simp at h5
          | sl _ _ b off _ c h0 hl hc hs hh =>
            refine ⟨_, _, hm, run hv h4 (by omega), .rp _ _ _ fun j p hj => ?_⟩
            rw [hn]
            exact ⟨_, hs _ _ _ _ h5 hj, hh _ _ _ _ h5 hj⟩
        | _ => have hs := hx.sl_inv; rw [hv] at hs; cases hs
      · exact hm.elim
    · rename_i id gen e1
      rw [e1] at hx
      obtain ⟨sh, n, xs, h1, hm⟩ := arrK_spec hm
      split at hm
      · rename_i hn
        have hn := Nat.eq_of_beq_eq_true hn
        obtain ⟨_, ⟨h4, h5⟩, hm⟩ := hm
        have e6 := hx.own_inv h1
        have hnil : G.isnil id = false := by
          cases hR.ob id _ h1 with
          | nil => simp at h5; omega
          | arr => assumption
        rw [hdr, hnil] at e6
        refine ⟨_, _, hm, run e6 h4 h5, .elp _ _ _ _ _ _ h1 (Nat.le_refl _) fun c len _ e => ?_⟩
        simp only [Ob.sig, Option.some.injEq, Prod.mk.injEq] at e
        rw [← e.1, hn, Nat.zero_add]; exact ⟨hnil, rfl⟩
      · exact hm.elim
    · exact hm.elim
  · exact hm.elim
/-- is it nil? -/
def prNil (nt : Nat) (o : Oper) (x : Operand) : Pr := rdV x fun v => match v with
  | .ptr id gen off => boxK id gen fun _ => setD nt o.dst (.ptr id gen off) .done
  | .elp id gen i off => arrK id gen fun _ _ _ => setD nt o.dst (.elp id gen i off) .done
  | .rp l => setD nt o.dst (.rp l) .done
  | .fn f cs => setD nt o.dst (.fn f cs) .done
  | _ => .fail
theorem prNil_ok [Env P] {x : Operand} (ho : o.op = .nilCheck x) : OpS P nt o (prNil nt o x) := by
  refine .pure fun E G s a w K hR hm => ?_
  simp only [prNil, rdV_mwp] at hm
  have hx := ev_sound hR x
  have run : ∀ {p : Addr}, a.eval x = .pointer (some p) → (execOp a.eval o).run P w = .ok (.value (a.eval x)) w := by
    intro p e; simp [execOp, ho, e]
  split at hm
  · rename_i id gen off e1
    rw [e1] at hx
    obtain ⟨cells, h1, _, hm⟩ := boxK_spec hm
    exact ⟨_, _, hm, run (hx.ptr_inv h1), hx⟩
  · rename_i id gen i off e1
    rw [e1] at hx
    obtain ⟨sh, c, xs, h1, hm⟩ := arrK_spec hm
    exact ⟨_, _, hm, run (hx.elp_inv h1).2, hx⟩
  · rename_i l e1
    rw [e1] at hx
    obtain ⟨b, off, h1, h2⟩ := hx.rp_inv
    exact ⟨_, _, hm, run h1, hx⟩
  · rename_i f cs e1
    rw [e1] at hx
    obtain ⟨c, h2, _⟩ := hx.fn_inv
    refine ⟨_, _, hm, ?_, hx⟩
    simp [execOp, ho, h2]
  · exact hm.elim
end
end Go.PV
namespace Go.PV
open Go Go.RowKit
def upd {α : Type} (f : Nat → α) (i : Nat) (v : α) : Nat → α := fun j => if j = i then v else f j
theorem upd_same {α : Type} (f : Nat → α) (i : Nat) (v : α) : upd f i v i = v := by simp [upd]
theorem upd_ne {α : Type} (f : Nat → α) {i j : Nat} (v : α) (h : j ≠ i) : upd f i v j = f j := by simp [upd, h]
theorem RO.blk_lt {G : Gh} {w : World} {O : Tb} {id : Nat} {o : Ob} (h : RO G w O id o) (hn : G.isnil id = false ∨ o.sig = none) : G.blk id < w.heap.size ∧ (G.own (G.blk id)).ow = some id := by
  cases h with
  | box _ _ cs T hb hw => exact ⟨(Array.getElem?_eq_some_iff.1 hb).1, by rw [hw]⟩
  | mp _ _ _ _ hb hw => exact ⟨(Array.getElem?_eq_some_iff.1 hb).1, by rw [hw]⟩
  | nil _ _ n hn' => rcases hn with hn | hn <;> simp_all [Ob.sig]
  | arr _ _ _ _ cs T lim _ hb hw => exact ⟨(Array.getElem?_eq_some_iff.1 hb).1, by rw [hw]⟩
/-- a new block, the object's -/
def newG (G : Gh) (id k cap : Nat) : Gh := { own := upd G.own k ⟨some id, some 0⟩, blk := upd G.blk id k, cap := upd G.cap id cap, isnil := upd G.isnil id false }
theorem cell_push {w w' : World} {o : Obj} (hw : w'.heap = w.heap.push o) {ad : Addr} (h : ad.block < w.heap.size) : w'.cell? ad = w.cell? ad := by
  have : w'.heap[ad.block]? = w.heap[ad.block]? := by rw [hw, Array.getElem?_push, if_neg (by omega)]
  unfold World.cell?; rw [this]
theorem newG_le {G : Gh} {w w' : World} {s : St} {id cap : Nat} {o' : Ob} {b : Obj} (hw : w'.heap = w.heap.push b) (hg : ∀ o, s.O id = some o → o.gen < o'.gen) : Le G w s.O (newG G id w.heap.size cap) w' (s.putO id o').O where
  hs b o c h := by
    have hlt := h.lt
    refine ⟨?_, ?_⟩
    · show ((upd G.own w.heap.size ⟨some id, some 0⟩) b).below o
      rw [upd_ne _ _ (by omega)]; exact h.1
    · rw [cell_push hw (ad := ⟨b, o, none⟩) hlt]; exact h.2
  hk i o hi := by
    rw [St.O_putO]
    by_cases e : id = i
    · subst e; exact ⟨o', if_pos rfl, .inl (hg o hi)⟩
    · refine ⟨o, by rw [if_neg e]; exact hi, .inr ⟨rfl, rfl, ?_, fun _ => ⟨?_, ?_⟩⟩⟩ <;> simp only [newG] <;> rw [upd_ne _ _ (Ne.symm e)]
theorem putO_box {E : Ent} {s : St} {id : Nat} {o' : Ob} (h : E.bx id = none ∨ ∃ g' c', o' = .box g' c') : ∀ i b, E.bx i = some b → (s.putO id o').O i = s.O i ∨ ∃ g c, (s.putO id o').O i = some (.box g c) := by
  intro i b hi
  rw [St.O_putO]
  by_cases e : id = i
  · subst e
    rcases h with h | ⟨g', c', h⟩
    · rw [hi] at h; cases h
    · exact .inr ⟨g', c', by rw [if_pos rfl, h]⟩
  · exact .inl (by rw [if_neg e])
theorem RG.arr_bx {E : Ent} {G : Gh} {s : St} {a : Act} {w : World} (hR : RG E G s a w) {id gen n : Nat} {sh : Bool} {xs : List (List V)} (h : s.O id = some (.arr gen sh n xs)) : E.bx id = none := by
  cases e : E.bx id with
  | none => rfl
  | some b => obtain ⟨g, c, e2⟩ := hR.bxs id b e; rw [h] at e2; cases e2
theorem newG_rg {E : Ent} {G : Gh} {s : St} {a : Act} {w w' : World} {id cap : Nat} {o' : Ob} {b : Obj} (hR : RG E G s a w) (hid : E.bx id = none) (hw : w'.heap = w.heap.push b) (hos : w'.os = w.os) (htp : w'.tape = w.tape) (hout : w'.output = w.output)
    (hg : ∀ o, s.O id = some o → o.gen < o'.gen) (hro : RO (newG G id w.heap.size cap) w' (s.putO id o').O id o') : RG E (newG G id w.heap.size cap) (s.putO id o') a w' := by
  have hle := newG_le (G := G) (s := s) (cap := cap) hw hg
  have hne : ∀ k, k < w.heap.size → w'.heap[k]? = w.heap[k]? := fun k hk => by rw [hw, Array.getElem?_push, if_neg (by omega)]
  refine hR.upd (fun t => rfl) hle (fun i o hi => ?_) (hR.fr.trans hos htp hout (by rw [hw]; simp) hle.hs (fun k hk ho => ⟨by simp only [newG]; rw [upd_ne _ _ (by omega)], hne k hk⟩) (fun i hi hb => by simp only [newG]; rw [upd_ne _ _ (fun e => by subst e; obtain ⟨b, hb⟩ := hb; rw [hid] at hb; cases hb)])) (putO_box (.inl hid))
  rw [St.O_putO] at hi
  split at hi
  · rename_i e; subst e; cases hi; exact hro
  · rename_i e
    have e := Ne.symm e
    refine (hR.ob i o hi).mono hle ?_ ?_ ?_ (fun hn => ?_)
    · simp only [newG]; rw [upd_ne _ _ e]
    · simp only [newG]; rw [upd_ne _ _ e]
    · simp only [newG]; rw [upd_ne _ _ e]
    · have := (hR.ob i o hi).blk_lt hn
      exact ⟨hne _ this.1, by simp only [newG]; rw [upd_ne _ _ (by omega)]⟩
/-- an object's own block, turned; or its bound -/
def limG (G : Gh) (id l : Nat) : Gh := { G with own := upd G.own (G.blk id) ⟨some id, some l⟩ }
theorem limG_le {G : Gh} {s : St} {w w' : World} {id l : Nat} {o o' : Ob} (ho : s.O id = some o)
    (hw : ∀ k, k ≠ G.blk id → w'.heap[k]? = w.heap[k]?) (hst : ∀ off c, stab G w (G.blk id) off c → off < l ∧ w'.cell? ⟨G.blk id, off, none⟩ = some c)
    (hg : o.gen < o'.gen ∨ o.gen = o'.gen ∧ o.sig = o'.sig) : Le G w s.O (limG G id l) w' (s.putO id o').O where
  hs b off c h := by
    by_cases e : b = G.blk id
    · subst e
      obtain ⟨h1, h2⟩ := hst off c h
      refine ⟨fun x hx => ?_, h2⟩
      simp only [limG, upd_same, Option.some.injEq] at hx; omega
    · refine ⟨?_, ?_⟩
      · simp only [limG]; rw [upd_ne _ _ e]; exact h.1
      · rw [World.cell?_of_block (w := w) (a := ⟨b, off, none⟩) (hw b e)]; exact h.2
  hk i oi hi := by
    rw [St.O_putO]
    by_cases e : id = i
    · subst e
      rw [ho] at hi; cases hi
      exact ⟨o', if_pos rfl, hg.elim .inl fun h => .inr ⟨h.1, h.2, rfl, fun _ => ⟨rfl, rfl⟩⟩⟩
    · exact ⟨oi, by rw [if_neg e]; exact hi, .inr ⟨rfl, rfl, rfl, fun _ => ⟨rfl, rfl⟩⟩⟩
theorem limG_rg {E : Ent} {G : Gh} {s : St} {a : Act} {w w' : World} (hR : RG E G s a w) {id l : Nat} {o o' : Ob} (ho : s.O id = some o) (hkd : E.bx id = none ∨ ∃ g' c', o' = .box g' c') (hn : G.isnil id = false ∨ o.sig = none)
    (hw : ∀ k, k ≠ G.blk id → w'.heap[k]? = w.heap[k]?) (hsz : w'.heap.size = w.heap.size) (hos : w'.os = w.os) (htp : w'.tape = w.tape) (hout : w'.output = w.output)
    (hst : ∀ off c, stab G w (G.blk id) off c → off < l ∧ w'.cell? ⟨G.blk id, off, none⟩ = some c)
    (hg : o.gen < o'.gen ∨ o.gen = o'.gen ∧ o.sig = o'.sig) (hro : RO (limG G id l) w' (s.putO id o').O id o') : RG E (limG G id l) (s.putO id o') a w' := by
  have hle := limG_le (G := G) ho hw hst hg
  obtain ⟨hb1, hb2⟩ := (hR.ob id o ho).blk_lt hn
  refine hR.upd (fun t => rfl) hle (fun i oi hi => ?_) (hR.fr.trans hos htp hout (by rw [hsz]; exact Nat.le_refl _) hle.hs (fun k hk hko => ?_) (fun i hi _ => rfl)) (putO_box hkd)
  · rw [St.O_putO] at hi
    split at hi
    · rename_i e; subst e; cases hi; exact hro
    · rename_i e
      refine (hR.ob i oi hi).mono hle rfl rfl rfl (fun hn' => ?_)
      have h2 := (hR.ob i oi hi).blk_lt hn'
      have hne : G.blk i ≠ G.blk id := fun h => e (by have := h2.2; rw [h, hb2] at this; cases this; rfl)
      exact ⟨hw _ hne, by simp only [limG]; rw [upd_ne _ _ hne]⟩
  · have hne : k ≠ G.blk id := fun h => by rw [h, hb2] at hko; cases hko
    exact ⟨by simp only [limG]; rw [upd_ne _ _ hne], hw k hne⟩
/-- the value is one that may be shared -/
def shK (v : V) (k : V → Pr) : Pr := match v with
  | .own id gen => arrK id gen fun _ n xs => .putO id (.arr gen true n xs) (k (.sl n xs))
  | .int i n => k (.int i n)
  | .bool b => k (.bool b)
  | .str l => k (.str l)
  | .nil => k .nil
  | .nilp => k .nilp
  | .nili => k .nili
  | .ifc => k .ifc
  | .sl n xs => k (.sl n xs)
  | .fn f [] => k (.fn f [])
  | _ => .fail
theorem stab_imp_limG {G : Gh} {w : World} {id l : Nat} (h : ∀ l0, (G.own (G.blk id)).lim = some l0 → l0 ≤ l) (hl : ∃ l0, (G.own (G.blk id)).lim = some l0) : ∀ off c, stab G w (G.blk id) off c → off < l ∧ w.cell? ⟨G.blk id, off, none⟩ = some c := by
  intro off c hc
  obtain ⟨l0, hl0⟩ := hl
  exact ⟨Nat.lt_of_lt_of_le (hc.1 l0 hl0) (h l0 hl0), hc.2⟩
theorem RC.sh_of {G : Gh} {w : World} {O : Tb} {p : V} {v : Value} (h : RC G w O p v) (h1 : ∀ f x xs, p ≠ .fn f (x :: xs)) (h2 : p ≠ .dead) (h3 : ∀ i g, p ≠ .own i g) (h4 : ∀ i g o, p ≠ .ptr i g o) (h5 : ∀ i g, p ≠ .mp i g) : Sh (stab G w) p v := by
  cases h with
  | dead => exact absurd rfl h2
  | sh _ _ h => exact h
  | own => exact absurd rfl (h3 _ _)
  | ptr => exact absurd rfl (h4 _ _ _)
  | mp => exact absurd rfl (h5 _ _)
  | fn f caps cs c hl hc hh =>
    cases caps with
    | nil =>
      have : cs = #[] := by simpa using hl
      subst this; exact .fn f
    | cons x xs => exact absurd rfl (h1 f x xs)
theorem sam_le {G : Gh} {w : World} {s : St} {id : Nat} {o o' : Ob} (ho : s.O id = some o) (hg : o.gen < o'.gen ∨ o.gen = o'.gen ∧ o.sig = o'.sig) : Le G w s.O G w (s.putO id o').O where
  hs _ _ _ h := h
  hk i oi hi := by
    rw [St.O_putO]
    by_cases e : id = i
    · subst e
      rw [ho] at hi; cases hi
      exact ⟨o', if_pos rfl, hg.elim .inl fun h => .inr ⟨h.1, h.2, rfl, fun _ => ⟨rfl, rfl⟩⟩⟩
    · exact ⟨oi, by rw [if_neg e]; exact hi, .inr ⟨rfl, rfl, rfl, fun _ => ⟨rfl, rfl⟩⟩⟩
theorem sam_rg {E : Ent} {G : Gh} {s : St} {a : Act} {w : World} (hR : RG E G s a w) {id : Nat} {o o' : Ob} (ho : s.O id = some o) (hkd : E.bx id = none ∨ ∃ g' c', o' = .box g' c') (hg : o.gen < o'.gen ∨ o.gen = o'.gen ∧ o.sig = o'.sig) (hro : RO G w (s.putO id o').O id o') : RG E G (s.putO id o') a w := by
  refine hR.upd (fun t => rfl) (sam_le ho hg) (fun i oi hi => ?_) hR.fr (putO_box hkd)
  rw [St.O_putO] at hi
  split at hi
  · rename_i e; subst e; cases hi; exact hro
  · exact (hR.ob i oi hi).mono (sam_le ho hg) rfl rfl rfl (fun _ => ⟨rfl, rfl⟩)
theorem shK_ok {E : Ent} {G : Gh} {s : St} {a : Act} {w : World} {K : St → Prop} {v : V} {k : V → Pr} {x : Value} (hR : RG E G s a w) (hx : RC G w s.O v x) (h : (shK v k).mwp s K) :
    ∃ G' s' p, RG E G' s' a w ∧ Le G w s.O G' w s'.O ∧ (∀ t, s'.V t = s.V t) ∧ (k p).mwp s' K ∧ Sh (stab G' w) p x := by
  unfold shK at h
  split at h
  · rename_i id gen
    obtain ⟨sh, n, xs, h1, h⟩ := arrK_spec h
    simp only [Pr.mwp] at h
    have hv := (RV.any _ _ (.cell _ _ hx)).own_inv h1
    cases hR.ob id _ h1 with
    | nil _ _ _ hn =>
      refine ⟨G, _, _, sam_rg (o' := .arr gen true n []) hR h1 (.inl (hR.arr_bx h1)) (.inr ⟨rfl, rfl⟩) (.nil _ _ _ hn), sam_le h1 (.inr ⟨rfl, rfl⟩), fun t => rfl, h, ?_⟩
      rw [hv, hdr, hn]; exact .sl0 _ _ _
    | arr _ _ _ _ cs T lim hn hb hw h0 hl hc hz hs ht hh =>
      have hst := stab_imp_limG (G := G) (w := w) (id := id) (l := xs.length * n) (fun l0 e => by rw [hw] at e; cases e; exact ht) ⟨lim, by rw [hw]⟩
      have hle : Le G w s.O (limG G id (xs.length * n)) w (s.putO id (.arr gen true n xs)).O := limG_le h1 (fun _ _ => rfl) hst (.inr ⟨rfl, rfl⟩)
      have hsh : ∀ (i : Nat) (x : List V) (j : Nat) (p : V), xs[i]? = some x → x[j]? = some p → ∃ c, cs[i * n + j]? = some c ∧ Sh (stab (limG G id (xs.length * n)) w) p c :=
        fun i x j p hi hj => let ⟨c, h2, h3⟩ := hh i x j p hi hj; ⟨c, h2, h3.mono hle.hs⟩
      refine ⟨_, _, _, limG_rg (o' := .arr gen true n xs) hR h1 (.inl (hR.arr_bx h1)) (.inl hn) (fun _ _ => rfl) rfl rfl rfl rfl hst (.inr ⟨rfl, rfl⟩) (.arr _ _ _ _ cs T (xs.length * n) hn hb (by simp [limG, upd_same]) h0 hl hc hz (by simp) (Nat.le_refl _) hsh), hle, fun t => rfl, h, ?_⟩
      rw [hv, hdr, hn]
      refine .sl n xs _ 0 _ (fun i j => cs.getD (i * n + j) undef) h0 hl hc (fun i x j p hi hj => ?_) (fun i x j p hi hj => ?_)
      · obtain ⟨c, h2, _⟩ := hsh i x j p hi hj
        have hlt : i * n + j < xs.length * n := mul_at (List.getElem?_eq_some_iff.1 hi).1 (by rw [← hl i x hi]; exact (List.getElem?_eq_some_iff.1 hj).1)
        refine ⟨fun l e => ?_, ?_⟩
        · simp only [limG, upd_same, Option.some.injEq] at e; omega
        · rw [cell_of_row w _ _ cs T _ hb, Nat.zero_add, Array.getD_eq_getD_getElem?, h2]; rfl
      · obtain ⟨c, h2, h3⟩ := hsh i x j p hi hj
        rw [Array.getD_eq_getD_getElem?, h2]; exact h3
  all_goals first
    | exact h.elim
    | exact ⟨G, s, _, hR, .refl, fun _ => rfl, h, hx.sh_of (by simp) (by simp) (by simp) (by simp) (by simp)⟩
theorem Le.trans {G G1 G2 : Gh} {w w1 w2 : World} {O O1 O2 : Tb} (hle1 : Le G w O G1 w1 O1) (hle2 : Le G1 w1 O1 G2 w2 O2) : Le G w O G2 w2 O2 :=
  ⟨fun b o c hc => hle2.hs _ _ _ (hle1.hs _ _ _ hc), fun i o ho => by
    obtain ⟨o1, e1, h3⟩ := hle1.hk i o ho
    obtain ⟨o2, e2, h4⟩ := hle2.hk i o1 e1
    refine ⟨o2, e2, ?_⟩
    rcases h3 with h3 | ⟨a1, a2, a3, a4⟩ <;> rcases h4 with h4 | ⟨b1, b2, b3, b4⟩
    · exact .inl (by omega)
    · exact .inl (by omega)
    · exact .inl (by omega)
    · exact .inr ⟨a1.trans b1, a2.trans b2, a3.trans b3, fun e => ⟨(a4 e).1.trans (b4 (by rw [← a2]; exact e)).1, (a4 e).2.trans (b4 (by rw [← a2]; exact e)).2⟩⟩⟩
/-- cells of a value -/
def cellsK (v : V) (k : List V → Pr) : Pr := match v with
  | .agg l => k l
  | .dead => .fail
  | .tup _ => .fail
  | .elp _ _ _ _ => .fail
  | .rp _ => .fail
  | v => k [v]
theorem cellsK_ok {G : Gh} {s : St} {w : World} {K : St → Prop} {v : V} {k : List V → Pr} {x : Value} (hx : RV G w s.O v x) (h : (cellsK v k).mwp s K) : ∃ l, (k l).mwp s K ∧ Cells (RC G w s.O) l x.cells := by
  have one : ∀ {p : V}, RV G w s.O p x → (∀ l, p ≠ .agg l) → p ≠ .dead → (∀ l, p ≠ .tup l) → (∀ a b c d, p ≠ .elp a b c d) → (∀ l, p ≠ .rp l) → Cells (RC G w s.O) [p] x.cells := by
    intro p hp h1 h2 h3 h4 h5
    cases hp with
    | dead => exact absurd rfl h2
    | any _ _ hp => cases hp with
      | cell _ _ hp =>
        have : x.cells = #[x] := by have := hp.one; cases x <;> first | rfl | simp [Value.oneCell'] at this
        rw [this]
        refine ⟨rfl, fun j q hj => ?_⟩
        cases j with
        | zero => simp only [List.getElem?_cons_zero, Option.some.injEq] at hj; subst hj; exact ⟨x, rfl, hp⟩
        | succ j => simp at hj
      | agg l _ _ => exact absurd rfl (h1 l)
    | tup l => exact absurd rfl (h3 l)
    | elp => exact absurd rfl (h4 _ _ _ _)
    | rp l => exact absurd rfl (h5 l)
  unfold cellsK at h
  split at h
  · obtain ⟨cs, h1, h2⟩ := hx.agg_inv; subst h1; exact ⟨_, h, h2⟩
  · exact h.elim
  · exact h.elim
  · exact h.elim
  · exact h.elim
  · rename_i h1 h2 h3 h4 h5
    exact ⟨_, h, one hx (fun l e => h1 l e) (fun e => h2 e) (fun l e => h3 l e) (fun a b c d e => h4 a b c d e) (fun l e => h5 l e)⟩
def shLK : List V → (List V → Pr) → Pr
  | [], k => k []
  | v :: vs, k => shK v fun p => shLK vs fun ps => k (p :: ps)
theorem shLK_ok {E : Ent} {a : Act} {w : World} {K : St → Prop} : ∀ {l : List V} {G : Gh} {s : St} {k : List V → Pr} {xs : List Value}, RG E G s a w → l.length = xs.length → (∀ (j : Nat) (p : V), l[j]? = some p → ∃ c, xs[j]? = some c ∧ RC G w s.O p c) → (shLK l k).mwp s K →
    ∃ G' s' ps, RG E G' s' a w ∧ Le G w s.O G' w s'.O ∧ (∀ t, s'.V t = s.V t) ∧ (k ps).mwp s' K ∧ ps.length = xs.length ∧ ∀ (j : Nat) (p : V), ps[j]? = some p → ∃ c, xs[j]? = some c ∧ Sh (stab G' w) p c
  | [], G, s, k, xs, hR, hl, hc, h => ⟨G, s, [], hR, .refl, fun _ => rfl, h, hl, fun j p hj => by simp at hj⟩
  | v :: vs, G, s, k, xs, hR, hl, hc, h => by
    cases xs with
    | nil => simp at hl
    | cons x xs =>
      obtain ⟨c, h1, h2⟩ := hc 0 v rfl
      simp only [List.getElem?_cons_zero, Option.some.injEq] at h1; subst h1
      obtain ⟨G1, s1, p, hR1, hle1, hV1, h, hp⟩ := shK_ok hR h2 h
      obtain ⟨G2, s2, ps, hR2, hle2, hV2, h, hl2, hps⟩ := shLK_ok (xs := xs) hR1 (by simpa using hl) (fun j p hj => by
        obtain ⟨c, h3, h4⟩ := hc (j + 1) p (by simpa using hj)
        exact ⟨c, by simpa using h3, h4.mono hle1⟩) h
      refine ⟨G2, s2, p :: ps, hR2, ?_, fun t => (hV2 t).trans (hV1 t), h, by simp [hl2], fun j q hj => ?_⟩
      · exact hle1.trans hle2
      · cases j with
        | zero => simp only [List.getElem?_cons_zero, Option.some.injEq] at hj; subst hj; exact ⟨x, rfl, hp.mono hle2.hs⟩
        | succ j => obtain ⟨c, h3, h4⟩ := hps j q (by simpa using hj); exact ⟨c, by simpa using h3, h4⟩
end Go.PV
namespace Go.PV
open Go Go.RowKit
section
variable {P : Program} {nt : Nat} {o : Oper}
def genK (old : Option Ob) (k : Nat → Pr) : Pr := match old with
  | none => k 0
  | some (.box g _) => k (g + 1)
  | some (.arr g _ _ _) => k (g + 1)
theorem genK_spec {old : Option Ob} {k : Nat → Pr} {s : St} {K : St → Prop} (h : (genK old k).mwp s K) : ∃ g, (∀ o, old = some o → o.gen < g) ∧ (k g).mwp s K := by
  unfold genK at h
  split at h
  · exact ⟨0, fun o e => (by cases e), h⟩
  · exact ⟨_, fun o e => (by cases e; exact Nat.lt_succ_self _), h⟩
  · exact ⟨_, fun o e => (by cases e; exact Nat.lt_succ_self _), h⟩
/-- a new object: how it is made (told its number and time) -/
def newK (nt : Nat) (o : Oper) (mk : Nat → Ob) (h : Nat → Nat → V) : Pr := match o.dst with
  | none => .fail
  | some d => .getO (64 + d) fun old => genK old fun g => .putO (64 + d) (mk g) (setD nt (some d) (h (64 + d) g) .done)
theorem newK_ok [Env P] {E : Ent} {G : Gh} {s : St} {a : Act} {w w' : World} {K : St → Prop} {next : Act → World → Prop} {Q : Exit → Act → World → Prop} {mk : Nat → Ob} {hd : Nat → Nat → V} {b : Obj} {v : Value} {cap : Nat} (hnt : E.ok P nt) (hR : RG E G s a w)
    (hn : ∀ s' a' w', K s' → R E s' a' w' → next a' w') (h : (newK nt o mk hd).mwp s K) (hrun : (execOp a.eval o).run P w = .ok (.value v) w') (hmk : ∀ g, (mk g).gen = g)
    (hw : w'.heap = w.heap.push b) (hos : w'.os = w.os) (htp : w'.tape = w.tape) (hout : w'.output = w.output)
    (hro : ∀ (id : Nat) (s' : St), 64 ≤ id → Le G w s.O (newG G id w.heap.size cap) w' s'.O → ∀ g, s'.O id = some (mk g) → RO (newG G id w.heap.size cap) w' s'.O id (mk g))
    (hv : ∀ (id g : Nat) (s' : St), s'.O id = some (mk g) → RV (newG G id w.heap.size cap) w' s'.O (hd id g) v) : o.wp P a w next Q := by
  unfold newK at h
  split at h
  · exact h.elim
  · rename_i d hd'
    simp only [Pr.mwp] at h
    obtain ⟨g, hg, h⟩ := genK_spec h
    simp only [Pr.mwp] at h
    have hg' : ∀ o, s.O (64 + d) = some o → o.gen < (mk g).gen := fun o e => by rw [hmk]; exact hg o e
    have hle := newG_le (G := G) (s := s) (cap := cap) hw hg'
    have hO : (s.putO (64 + d) (mk g)).O (64 + d) = some (mk g) := by rw [St.O_putO, if_pos rfl]
    have hR' : RG E _ (s.putO (64 + d) (mk g)) a w' := newG_rg (id := 64 + d) hR (by cases e : E.bx (64 + d) with | none => rfl | some b => have := (hR.fr.bx _ b e).1; omega) hw hos htp hout hg' (hro (64 + d) _ (by omega) hle g hO)
    obtain ⟨s', hk, hR2⟩ := setD_put hnt hR' (hv _ _ _ hO) h
    exact opwp_value hrun (hn _ _ _ hk (by rw [hd']; exact ⟨_, hR2⟩))
theorem newG_box {G : Gh} {w w' : World} {O O' : Tb} {id cap g : Nat} {cells : List V} {cs : Array Value} {T : TypeId} (hw : w'.heap = w.heap.push (.cells cs T (0, 0))) (hle : Le G w O (newG G id w.heap.size cap) w' O') (hc : Cells (RC G w O) cells cs) :
    RO (newG G id w.heap.size cap) w' O' id (.box g cells) := by
  refine .box _ _ cs T ?_ ?_ (hc.mono fun _ _ => RC.mono hle)
  · simp [newG, upd_same, hw]
  · simp [newG, upd_same]
theorem newG_ptr {G : Gh} {w w' : World} {O' : Tb} {id cap g : Nat} {cells : List V} (h : O' id = some (.box g cells)) : RV (newG G id w.heap.size cap) w' O' (.ptr id g 0) (.pointer (some ⟨w.heap.size, 0, none⟩)) :=
  .any _ _ (.cell _ _ (.ptr _ _ _ _ _ rfl h (Nat.le_refl _) fun _ _ => by simp [newG, upd_same]))
def zeroK (P : Program) (t : TypeId) (k : List V → Pr) : Pr := match P.toTables.info? t with
  | none => .fail
  | some i => match i.zero with
    | none => .fail
    | some z => match z.cells.toList.all (·.oneCell') with
      | true => ofCsK z.cells.toList k
      | false => .fail
theorem zeroK_spec {t : TypeId} {k : List V → Pr} {s : St} {K : St → Prop} (h : (zeroK P t k).mwp s K) : ∃ i z l, P.toTables.info? t = some i ∧ i.zero = some z ∧ (∀ G w O, Cells (RC G w O) l z.cells) ∧ (k l).mwp s K := by
  unfold zeroK at h
  split at h
  · exact h.elim
  · rename_i i hi
    split at h
    · exact h.elim
    · rename_i z hz
      split at h
      · rename_i h1
        rw [ofCsK_eq] at h
        refine ⟨i, z, _, hi, hz, fun G w O => ⟨by simp, fun j p hj => ?_⟩, h⟩
        rw [List.getElem?_map] at hj
        cases hc : z.cells.toList[j]? with
        | none => rw [hc] at hj; cases hj
        | some c =>
          rw [hc] at hj; simp only [Option.map_some, Option.some.injEq] at hj; subst hj
          exact ⟨c, by simpa using hc, ofC_sound c (List.all_eq_true.1 h1 c (List.mem_of_getElem? hc))⟩
      · exact h.elim
def prAlloc (P : Program) (nt : Nat) (o : Oper) (t : TypeId) : Pr := zeroK P t fun l => newK nt o (fun g => .box g l) fun id g => .ptr id g 0
theorem prAlloc_ok [Env P] {t : TypeId} (ho : o.op = .alloc t) : OpS P nt o (prAlloc P nt o t) := by
  intro E G s a w K next Q hnt hR hm hn
  obtain ⟨i, z, l, h1, h2, h3, hm⟩ := zeroK_spec hm
  exact newK_ok (w' := { w with heap := w.heap.push (.cells z.cells t) }) (b := .cells z.cells t) (v := .pointer (some ⟨w.heap.size, 0, none⟩)) (cap := 0) hnt hR hn hm
    (by simp [execOp, ho, Instr.alloc, zeroValue, typeInfo, h1, h2, newVar, newRow]) (fun _ => rfl) rfl rfl rfl rfl
    (fun id s' _ hle g _ => newG_box rfl hle (h3 _ _ _)) (fun id g s' h => newG_ptr h)
def prBox (nt : Nat) (o : Oper) (x : Operand) : Pr := rdV x fun v => cellsK v fun l => newK nt o (fun g => .box g l) fun id g => .ptr id g 0
theorem prBox_ok [Env P] {t : TypeId} {x : Operand} (ho : o.op = .box t x) : OpS P nt o (prBox nt o x) := by
  intro E G s a w K next Q hnt hR hm hn
  simp only [prBox, rdV_mwp] at hm
  obtain ⟨l, hm, h1⟩ := cellsK_ok (ev_sound hR x) hm
  exact newK_ok (w' := { w with heap := w.heap.push (.cells (a.eval x).cells t) }) (b := .cells (a.eval x).cells t) (v := .pointer (some ⟨w.heap.size, 0, none⟩)) (cap := 0) hnt hR hn hm
    (by simp [execOp, ho, Instr.box, newVar, newRow]) (fun _ => rfl) rfl rfl rfl rfl
    (fun id s' _ hle g _ => newG_box rfl hle h1) (fun id g s' h => newG_ptr h)
/-- cells laid over cells -/
def lay {α : Type} (l : List α) (off : Nat) (m : List α) : List α := l.take off ++ m ++ l.drop (off + m.length)
theorem lay_get {α : Type} (l m : List α) (off j : Nat) (h : off + m.length ≤ l.length) : (lay l off m)[j]? = if off ≤ j ∧ j < off + m.length then m[j - off]? else l[j]? := by
  unfold lay
  have h1 : (l.take off).length = off := by simp; omega
  rw [List.append_assoc, List.getElem?_append, h1]
  split
  · rw [List.getElem?_take, if_pos (by assumption), if_neg (by omega)]
  · rw [List.getElem?_append]
    split
    · rw [if_pos (by omega)]
    · rw [if_neg (by omega), List.getElem?_drop]; congr 1; omega
theorem lay_length {α : Type} (l m : List α) (off : Nat) (h : off + m.length ≤ l.length) : (lay l off m).length = l.length := by unfold lay; simp; omega
theorem Cells.lay {R : V → Value → Prop} {l m : List V} {cs ds : Array Value} {off : Nat} (h : Cells R l cs) (k : Cells R m ds) (hle : off + m.length ≤ l.length) : Cells R (lay l off m) (PV.lay cs.toList off ds.toList).toArray := by
  have e1 : cs.toList.length = l.length := by simpa using h.1
  have e2 : ds.toList.length = m.length := by simpa using k.1
  refine ⟨by rw [List.size_toArray, lay_length _ _ _ (by omega), lay_length _ _ _ hle, e1], fun j p hj => ?_⟩
  rw [lay_get _ _ _ _ hle] at hj
  rw [List.getElem?_toArray, lay_get _ _ _ _ (by omega), e2]
  split at hj
  · rename_i hc
    rw [if_pos hc]
    obtain ⟨c, h1, h2⟩ := k.2 _ _ hj; exact ⟨c, by simpa using h1, h2⟩
  · rename_i hc
    rw [if_neg hc]
    obtain ⟨c, h1, h2⟩ := h.2 _ _ hj; exact ⟨c, by simpa using h1, h2⟩
def layK (l : List V) (off : Nat) (m : List V) (k : List V → Pr) : Pr := match Nat.ble (off + m.length) l.length with
  | true => force (l.take off ++ m ++ l.drop (off + m.length)) k
  | false => .fail
theorem layK_spec {l m : List V} {off : Nat} {k : List V → Pr} {s : St} {K : St → Prop} (h : (layK l off m k).mwp s K) : off + m.length ≤ l.length ∧ (k (lay l off m)).mwp s K := by
  unfold layK at h
  split at h
  · rename_i h1; rw [force_eq] at h; exact ⟨Nat.le_of_ble_eq_true h1, h⟩
  · exact h.elim
theorem run_storeAt {t : TypeId} {i : TypeInfo} {b off : Nat} {x : Value} {cur : Array Value} {T : TypeId} {w : World} (hi : P.toTables.info? t = some i) (hsz : x.cells.size = i.size) (hb : w.heap[b]? = some (.cells cur T (0, 0))) (hle : off + x.cells.size ≤ cur.size) (h1 : ∀ v ∈ x.cells.toList, v.oneCell' = true) :
    (Instr.storeAt t (.pointer (some ⟨b, off, none⟩)) x).run P w = .ok () (w.setRow b (lay cur.toList off x.cells.toList).toArray) := by
  have h := run_storeCells_at P b off T x.cells.toList 0 cur w hb (by simpa using hle) h1
  simp only [Nat.add_zero] at h
  simp [Instr.storeAt, Instr.sureAddr, storeVar, run_sizeOf hi, hsz, h, lay]
theorem setRow_heap_ne (w : World) (b : Nat) (cs : Array Value) : ∀ k, k ≠ b → (w.setRow b cs).heap[k]? = w.heap[k]? := fun k h => setRow_other w b k cs h
def prStore (P : Program) (nt : Nat) (o : Oper) (t : TypeId) (x y : Operand) : Pr := rdV x fun p => rdV y fun v => cellsK v fun l => szK P t fun n => match Nat.beq l.length n with
  | false => .fail
  | true => match p with
    | .ptr id gen off => boxK id gen fun cells => layK cells off l fun cells' => .putO id (.box gen cells') (setD nt o.dst (.tup []) .done)
    | .elp id gen i off => shLK l fun m => arrK id gen fun sh c xs => match sh with
      | true => .fail
      | false => .ex (List V) (fun z => xs[i]? = some z) fun z => layK z off m fun z' => .putO id (.arr gen false c (xs.set i z')) (setD nt o.dst (.tup []) .done)
    | _ => .fail
theorem RV.undef {G : Gh} {w : World} {O : Tb} : RV G w O (.tup []) undef := .tup [] #[] ⟨rfl, fun j p hj => by simp at hj⟩
theorem Cells.one {G : Gh} {w : World} {O : Tb} {l : List V} {cs : Array Value} (h : Cells (RC G w O) l cs) : ∀ v ∈ cs.toList, v.oneCell' = true := by
  intro v hv
  obtain ⟨j, hj⟩ := List.mem_iff_getElem?.1 hv
  have hlt : j < l.length := by have := (List.getElem?_eq_some_iff.1 hj).1; rw [Array.length_toList, h.1] at this; exact this
  obtain ⟨c, h1, h2⟩ := h.2 j _ (List.getElem?_eq_getElem hlt)
  rw [← Array.getElem?_toList, hj] at h1; cases h1; exact h2.one
theorem prStore_ok [Env P] {t : TypeId} {x y : Operand} (ho : o.op = .store t x y) : OpS P nt o (prStore P nt o t x y) := by
  intro E G s a w K next Q hnt hR hm hn
  simp only [prStore, rdV_mwp] at hm
  have hx := ev_sound hR x
  obtain ⟨l, hm, h1⟩ := cellsK_ok (ev_sound hR y) hm
  obtain ⟨i, hi, hm⟩ := szK_spec hm
  split at hm
  · exact hm.elim
  rename_i hsz
  have hsz := Nat.eq_of_beq_eq_true hsz
  have run : ∀ {b off : Nat} {cur : Array Value} {T : TypeId}, a.eval x = .pointer (some ⟨b, off, none⟩) → w.heap[b]? = some (.cells cur T (0, 0)) → off + l.length ≤ cur.size →
      (execOp a.eval o).run P w = .ok .skip (w.setRow b (lay cur.toList off (a.eval y).cells.toList).toArray) := by
    intro b off cur T e hb hle
    have := run_storeAt (P := P) (t := t) (x := a.eval y) hi (by rw [h1.1, hsz]) hb (by rw [h1.1]; exact hle) h1.one
    simp [execOp, ho, e, this]
  split at hm
  · rename_i id gen off e1
    rw [e1] at hx
    obtain ⟨cells, h2, hnm, hm⟩ := boxK_spec hm
    obtain ⟨hle, hm⟩ := layK_spec hm
    simp only [Pr.mwp] at hm
    cases hR.ob id _ h2 with
    | mp => exact absurd rfl (hnm _ _)
    | box _ _ cs T hb hw hc =>
      have hst : ∀ off' c, stab G w (G.blk id) off' c → off' < 0 ∧ (w.setRow (G.blk id) (lay cs.toList off (a.eval y).cells.toList).toArray).cell? ⟨G.blk id, off', none⟩ = some c := fun off' c h => by
        have := h.1 0 (by rw [hw]); omega
      have hlim : limG G id 0 = G := by
        have : upd G.own (G.blk id) ⟨some id, some 0⟩ = G.own := by funext j; unfold upd; split <;> simp_all
        simp [limG, this]
      have hne := setRow_heap_ne w (G.blk id) (lay cs.toList off (a.eval y).cells.toList).toArray
      have hle' := limG_le (G := G) (s := s) (o' := .box gen (lay cells off l)) h2 hne hst (.inr ⟨rfl, rfl⟩)
      rw [hlim] at hle'
      have hR' := limG_rg (o' := .box gen (lay cells off l)) hR h2 (.inr ⟨gen, _, rfl⟩) (.inr rfl) hne (by simp) rfl rfl rfl hst (.inr ⟨rfl, rfl⟩) (by
        rw [hlim]
        exact .box _ _ _ T (setRow_heap w _ _ _ T _ hb) hw ((hc.lay h1 hle).mono fun _ _ => RC.mono hle'))
      obtain ⟨s', hk, hR2⟩ := setD_put hnt hR' .undef hm
      exact opwp_skip (run (hx.ptr_inv h2) hb (by rw [hc.1]; exact hle)) (hn _ _ _ hk ⟨_, hR2⟩)
  · rename_i id gen ix off e1
    rw [e1] at hx
    obtain ⟨G1, s1, m, hR1, hle1, hV1, hm, hlen, hcells⟩ := shLK_ok (xs := (a.eval y).cells.toList) hR (by simpa using h1.1.symm) (fun j p hj => by simpa using h1.2 j p hj) hm
    have hx := hx.mono hle1
    obtain ⟨sh, c, xs, h2, hm⟩ := arrK_spec hm
    split at hm
    · exact hm.elim
    · obtain ⟨z, hz, hm⟩ := hm
      obtain ⟨hle, hm⟩ := layK_spec hm
      simp only [Pr.mwp] at hm
      obtain ⟨hnil, hx⟩ := hx.elp_inv h2
      have hml : m.length = l.length := by rw [hlen]; simpa using h1.1
      cases hR1.ob id _ h2 with
      | nil => simp at hz
      | arr _ _ _ _ cs T lim hn' hb hw h0 hl hcap hzs hs ht hh =>
        have hzl := hl _ _ hz
        have hlim0 := hs rfl
        subst hlim0
        have hi1 := (List.getElem?_eq_some_iff.1 hz).1
        have hroom : ix * c + off + m.length ≤ cs.size := by
          have : (ix + 1) * c ≤ G1.cap id * c := Nat.mul_le_mul_right c (by omega)
          rw [Nat.add_mul, Nat.one_mul] at this; omega
        have hds : (a.eval y).cells.toList.length = m.length := hlen.symm
        have hst : ∀ off' c', stab G1 w (G1.blk id) off' c' → off' < 0 ∧ (w.setRow (G1.blk id) (lay cs.toList (ix * c + off) (a.eval y).cells.toList).toArray).cell? ⟨G1.blk id, off', none⟩ = some c' := fun off' c' h => by
          have := h.1 0 (by rw [hw]); omega
        have hlim : limG G1 id 0 = G1 := by
          have : upd G1.own (G1.blk id) ⟨some id, some 0⟩ = G1.own := by funext j; unfold upd; split <;> simp_all
          simp [limG, this]
        have hne := setRow_heap_ne w (G1.blk id) (lay cs.toList (ix * c + off) (a.eval y).cells.toList).toArray
        have hg : (Ob.arr gen false c xs).gen < (Ob.arr gen false c (xs.set ix (lay z off m))).gen ∨ (Ob.arr gen false c xs).gen = (Ob.arr gen false c (xs.set ix (lay z off m))).gen ∧ (Ob.arr gen false c xs).sig = (Ob.arr gen false c (xs.set ix (lay z off m))).sig := .inr ⟨rfl, by simp [Ob.sig]⟩
        have hle' := limG_le (G := G1) (s := s1) (o' := .arr gen false c (xs.set ix (lay z off m))) h2 hne hst hg
        rw [hlim] at hle'
        have hR' := limG_rg (o' := .arr gen false c (xs.set ix (lay z off m))) hR1 h2 (.inl (hR1.arr_bx h2)) (.inl hn') hne (by simp) rfl rfl rfl hst hg (by
          rw [hlim]
          refine .arr _ _ _ _ _ T 0 hn' (setRow_heap w _ _ _ T _ hb) hw h0 (fun i x hx => ?_) (by simpa using hcap) ?_ (fun _ => rfl) (Nat.zero_le _) (fun i x j p hi hj => ?_)
          · rw [List.getElem?_set] at hx
            split at hx
            · rename_i e
              subst e
              cases hx; rw [lay_length _ _ _ hle]; exact hzl
            · exact hl _ _ hx
          · rw [List.size_toArray, lay_length _ _ _ (by rw [hds]; simpa using hroom)]; simpa using hzs
          · rw [List.getElem?_toArray, lay_get _ _ _ _ (by rw [hds]; simpa using hroom), hds]
            rw [List.getElem?_set] at hi
            split at hi
            · rename_i e
              subst e
              cases hi
              rw [lay_get _ _ _ _ hle] at hj
              split at hj
              · rename_i hc
                rw [if_pos (by omega)]
                obtain ⟨v, h3, h4⟩ := hcells _ _ hj
                exact ⟨v, by rw [show ix * c + j - (ix * c + off) = j - off by omega]; exact h3, h4.mono hle'.hs⟩
              · rename_i hc
                have hjl := (List.getElem?_eq_some_iff.1 hj).1
                rw [if_neg (by omega)]
                obtain ⟨v, h3, h4⟩ := hh _ _ _ _ hz hj
                exact ⟨v, by simpa using h3, h4.mono hle'.hs⟩
            · rename_i hne'
              have hjl : j < c := by rw [← hl _ _ hi]; exact (List.getElem?_eq_some_iff.1 hj).1
              have hfar : ¬ (ix * c + off ≤ i * c + j ∧ i * c + j < ix * c + off + m.length) := by
                intro ⟨q1, q2⟩
                rcases Nat.lt_or_gt_of_ne hne' with hlt | hgt
                · have : (ix + 1) * c ≤ i * c := Nat.mul_le_mul_right c hlt
                  rw [Nat.add_mul, Nat.one_mul] at this; omega
                · have : (i + 1) * c ≤ ix * c := Nat.mul_le_mul_right c hgt
                  rw [Nat.add_mul, Nat.one_mul] at this; omega
              rw [if_neg hfar]
              obtain ⟨v, h3, h4⟩ := hh _ _ _ _ hi hj
              exact ⟨v, by simpa using h3, h4.mono hle'.hs⟩)
        obtain ⟨s', hk, hR2⟩ := setD_put hnt hR' .undef hm
        exact opwp_skip (run hx hb (by rw [← hml]; exact hroom)) (hn _ _ _ hk ⟨_, hR2⟩)
  · exact hm.elim
end
end Go.PV
namespace Go.PV
open Go Go.RowKit
section
variable {P : Program} {nt : Nat} {o : Oper}
theorem fold_put (off : Nat) : ∀ (l : List Value) (i : Nat) (cs : Array Value), off + i + l.length ≤ cs.size → (l.zipIdx i).foldl (fun cs x => cs.setIfInBounds (off + x.2) x.1) cs = (lay cs.toList (off + i) l).toArray
  | [], i, cs, h => by simp [lay]
  | v :: l, i, cs, h => by
    simp only [List.length_cons] at h
    rw [List.zipIdx_cons, List.foldl_cons, fold_put off l (i + 1) _ (by simp; omega)]
    congr 1
    apply List.ext_getElem?
    intro j
    rw [lay_get _ _ _ _ (by simp; omega), lay_get _ _ _ _ (by simp; omega)]
    simp only [List.length_cons, Array.toList_setIfInBounds, List.getElem?_set]
    have hl : off + i < cs.toList.length := by simpa using (by omega : off + i < cs.size)
    by_cases h1 : j = off + i
    · subst h1
      rw [if_neg (by omega), if_pos rfl, if_pos hl, if_pos (by omega), Nat.sub_self]; rfl
    · by_cases h2 : off + (i + 1) ≤ j ∧ j < off + (i + 1) + l.length
      · rw [if_pos h2, if_pos (by omega), show j - (off + i) = (j - (off + (i + 1))) + 1 by omega]; rfl
      · rw [if_neg h2, if_neg (by omega), if_neg (by omega)]
theorem fill_cons {place : Nat → Option (Nat × Nat)} {cs : Array Value} {i off n : Nat} {v : Value} {r : List (Nat × Value)} (hp : place i = some (off, n)) (hn : v.cells.size = n) (hle : off + n ≤ cs.size) :
    Instr.fill place cs ((i, v) :: r) = Instr.fill place (lay cs.toList off v.cells.toList).toArray r := by
  rw [Instr.fill.eq_2, hp]
  have h1 : (decide (v.cells.size ≠ n) || decide (off + v.cells.size > cs.size)) = false := by simp [hn]; omega
  simp only [h1, Bool.false_eq_true, if_false]
  congr 1
  have := fold_put off v.cells.toList 0 cs (by simpa [hn] using hle)
  rw [← Array.foldl_toList, Array.toList_zipIdx]
  simpa using this
def fillK (place : Nat → Option (Nat × Nat)) : List (Nat × Operand) → List V → (List V → Pr) → Pr
  | [], l, k => k l
  | (i, x) :: r, l, k => match place i with
    | none => .fail
    | some (off, n) => rdV x fun v => cellsK v fun c => match Nat.beq c.length n with
      | true => layK l off c fun l' => fillK place r l' k
      | false => .fail
theorem fillK_ok {E : Ent} {G : Gh} {s : St} {a : Act} {w : World} {K : St → Prop} {place : Nat → Option (Nat × Nat)} (hR : RG E G s a w) : ∀ {r : List (Nat × Operand)} {l : List V} {cs : Array Value} {k : List V → Pr}, (fillK place r l k).mwp s K → Cells (RC G w s.O) l cs →
    ∃ l' cs', (k l').mwp s K ∧ Instr.fill place cs (r.map fun x => (x.1, a.eval x.2)) = some cs' ∧ Cells (RC G w s.O) l' cs'
  | [], l, cs, k, h, hc => ⟨l, cs, h, rfl, hc⟩
  | (i, x) :: r, l, cs, k, h, hc => by
    simp only [fillK] at h
    split at h
    · exact h.elim
    · rename_i off n hp
      rw [rdV_mwp] at h
      obtain ⟨c, h, h1⟩ := cellsK_ok (ev_sound hR x) h
      split at h
      · rename_i hn
        have hn := Nat.eq_of_beq_eq_true hn
        obtain ⟨hle, h⟩ := layK_spec h
        obtain ⟨l', cs', h2, h3, h4⟩ := fillK_ok hR h (hc.lay h1 hle)
        refine ⟨l', cs', h2, ?_, h4⟩
        rw [List.map_cons, fill_cons hp (by rw [h1.1, hn]) (by rw [hc.1, ← hn]; exact hle)]
        exact h3
      · exact h.elim
def prBuild (P : Program) (nt : Nat) (o : Oper) (t : TypeId) (parts : Array (Nat × Operand)) : Pr := match P.underlying t with
  | some (.struct fields) => match fields.toList.mapM (fun f => (P.toTables.info? f.type).map fun i => (f.offset, i.size)) with
    | some places => zeroK P t fun l => fillK (fun i => places.toArray[i]?) parts.toList l fun l' => setD nt o.dst (.agg l') .done
    | none => .fail
  | _ => .fail
theorem prBuild_ok [Env P] {t : TypeId} {parts : Array (Nat × Operand)} (ho : o.op = .build t parts) : OpS P nt o (prBuild P nt o t parts) := by
  refine .pure fun E G s a w K hR hm => ?_
  unfold prBuild at hm
  split at hm
  · rename_i fields hu
    split at hm
    · rename_i places hp
      obtain ⟨it, z, l, h1, h2, h3, hm⟩ := zeroK_spec hm
      obtain ⟨l', cs', h4, h5, h6⟩ := fillK_ok hR hm (h3 G w s.O)
      refine ⟨_, .agg cs', h4, ?_, .any _ _ (.agg _ _ h6)⟩
      have hb : P.built t (parts.map fun (i, x) => (i, a.eval x)).toList = some cs' := by
        unfold Program.built
        simp only [h1, hu, h2, hp]
        rw [Array.toList_map]; exact h5
      simp only [execOp, ho, Sem.run_bind, run_build w t _ cs' hb, Result.andThen_ok]; rfl
    · exact hm.elim
  · exact hm.elim
/-- elements, one behind the other, in flat cells -/
structure Flat (σ : Nat → Nat → Value → Prop) (n : Nat) (xs : List (List V)) (cs : List Value) : Prop where
  sz : cs.length = xs.length * n
  ln : ∀ (i : Nat) (x : List V), xs[i]? = some x → x.length = n
  at_ : ∀ (i : Nat) (x : List V) (j : Nat) (p : V), xs[i]? = some x → x[j]? = some p → ∃ c, cs[i * n + j]? = some c ∧ Sh σ p c
theorem Flat.mono {σ σ' : Nat → Nat → Value → Prop} {n : Nat} {xs : List (List V)} {cs : List Value} (h : Flat σ n xs cs) (hs : ∀ b o c, σ b o c → σ' b o c) : Flat σ' n xs cs :=
  ⟨h.sz, h.ln, fun i x j p hi hj => let ⟨c, h1, h2⟩ := h.at_ i x j p hi hj; ⟨c, h1, h2.mono hs⟩⟩
theorem Flat.set {σ : Nat → Nat → Value → Prop} {n : Nat} {xs : List (List V)} {cs ds : List Value} {m : List V} {i : Nat} (h : Flat σ n xs cs) (hi : i < xs.length) (hm : m.length = n) (hd : ds.length = n)
    (hc : ∀ (j : Nat) (p : V), m[j]? = some p → ∃ c, ds[j]? = some c ∧ Sh σ p c) : Flat σ n (xs.set i m) (lay cs (i * n) ds) ∧ i * n + ds.length ≤ cs.length := by
  have hle : i * n + ds.length ≤ cs.length := by
    have : (i + 1) * n ≤ xs.length * n := Nat.mul_le_mul_right n hi
    rw [Nat.add_mul, Nat.one_mul] at this; rw [h.sz]; omega
  refine ⟨⟨by rw [lay_length _ _ _ hle]; simpa using h.sz, fun k x hx => ?_, fun k x j p hx hj => ?_⟩, hle⟩
  · rw [List.getElem?_set] at hx
    split at hx
    · rename_i e; subst e; cases hx; exact hm
    · exact h.ln k x hx
  · rw [lay_get _ _ _ _ hle, hd]
    rw [List.getElem?_set] at hx
    split at hx
    · rename_i e; subst e; cases hx
      have := (List.getElem?_eq_some_iff.1 hj).1
      rw [if_pos (by omega), show i * n + j - i * n = j by omega]; exact hc j p hj
    · rename_i hne
      have hjl : j < n := by rw [← h.ln _ _ hx]; exact (List.getElem?_eq_some_iff.1 hj).1
      rw [if_neg]
      · exact h.at_ k x j p hx hj
      · intro ⟨q1, q2⟩
        rcases Nat.lt_or_gt_of_ne hne with hlt | hgt
        · have : (i + 1) * n ≤ k * n := Nat.mul_le_mul_right n hlt
          rw [Nat.add_mul, Nat.one_mul] at this; omega
        · have : (k + 1) * n ≤ i * n := Nat.mul_le_mul_right n hgt
          rw [Nat.add_mul, Nat.one_mul] at this; omega
def fillS (n : Nat) : List (Nat × Operand) → List (List V) → (List (List V) → Pr) → Pr
  | [], xs, k => k xs
  | (i, x) :: r, xs, k => rdV x fun v => cellsK v fun c => shLK c fun m => match Nat.beq m.length n, Nat.blt i xs.length with
    | true, true => force (xs.set i m) fun ys => fillS n r ys k
    | _, _ => .fail
theorem fillS_ok {E : Ent} {a : Act} {w : World} {K : St → Prop} {n : Nat} : ∀ {r : List (Nat × Operand)} {G : Gh} {s : St} {xs : List (List V)} {cs : Array Value} {k : List (List V) → Pr}, RG E G s a w → (fillS n r xs k).mwp s K → Flat (stab G w) n xs cs.toList →
    ∃ G' s' xs' cs', RG E G' s' a w ∧ Le G w s.O G' w s'.O ∧ (k xs').mwp s' K ∧ Instr.fill (fun i => some (i * n, n)) cs (r.map fun x => (x.1, a.eval x.2)) = some cs' ∧ Flat (stab G' w) n xs' cs'.toList ∧ xs'.length = xs.length
  | [], G, s, xs, cs, k, hR, h, hf => ⟨G, s, xs, cs, hR, .refl, h, rfl, hf, rfl⟩
  | (i, x) :: r, G, s, xs, cs, k, hR, h, hf => by
    simp only [fillS, rdV_mwp] at h
    obtain ⟨c, h, h1⟩ := cellsK_ok (ev_sound hR x) h
    obtain ⟨G1, s1, m, hR1, hle1, hV1, h, hlen, hcells⟩ := shLK_ok (xs := (a.eval x).cells.toList) hR (by simpa using h1.1.symm) (fun j p hj => by simpa using h1.2 j p hj) h
    split at h
    · rename_i hn hi
      have hn := Nat.eq_of_beq_eq_true hn
      have hi : i < xs.length := by simpa using hi
      rw [force_eq] at h
      obtain ⟨h2, h3⟩ := (hf.mono hle1.hs).set hi hn (by rw [← hlen, hn]) hcells
      obtain ⟨G2, s2, xs', cs', hR2, hle2, h4, h5, h6, h7⟩ := fillS_ok (cs := (lay cs.toList (i * n) (a.eval x).cells.toList).toArray) hR1 h (by simpa using h2)
      refine ⟨G2, s2, xs', cs', hR2, hle1.trans hle2, h4, ?_, h6, by simpa using h7⟩
      have hcs : (a.eval x).cells.size = n := by rw [← hn, hlen]; simp
      rw [List.map_cons, fill_cons (v := a.eval x) rfl hcs (by simpa [hcs] using h3)]
      exact h5
    · exact h.elim
/-- a new row of one's own -/
theorem newG_arr {G : Gh} {w w' : World} {O O' : Tb} {id cap g n : Nat} {xs : List (List V)} {cs : Array Value} {T : TypeId} (hw : w'.heap = w.heap.push (.cells cs T (0, 0))) (hle : Le G w O (newG G id w.heap.size cap) w' O') {fs : List Value} (hf : Flat (stab G w) n xs fs) (h0 : 0 < n) (hcap : xs.length ≤ cap)
    (hz : cap * n ≤ cs.size) (hp : ∀ (j : Nat) (c : Value), fs[j]? = some c → cs[j]? = some c) (sh : Bool) : RO (newG G id w.heap.size cap) w' O' id (.arr g sh n xs) := by
  refine .arr _ _ _ _ cs T 0 (by simp [newG, upd_same]) ?_ ?_ h0 hf.ln (by simpa [newG, upd_same] using hcap) (by simpa [newG, upd_same] using hz) (fun _ => rfl) (Nat.zero_le _) (fun i x j p hi hj => ?_)
  · simp [newG, upd_same, hw]
  · simp [newG, upd_same]
  · obtain ⟨c, h1, h2⟩ := hf.at_ i x j p hi hj; exact ⟨c, hp _ _ h1, h2.mono hle.hs⟩
theorem newG_own {G : Gh} {w w' : World} {O' : Tb} {id cap g n : Nat} {sh : Bool} {xs : List (List V)} (h : O' id = some (.arr g sh n xs)) : RV (newG G id w.heap.size cap) w' O' (.own id g) (.slice (some ⟨w.heap.size, 0, none⟩) xs.length cap) := by
  refine .any _ _ (.cell _ _ (.own _ _ _ _ rfl h (Nat.le_refl _) fun m len _ e => ?_))
  simp only [Ob.sig, Option.some.injEq, Prod.mk.injEq] at e
  simp [hdr, newG, upd_same, e.2]
def repK {α : Type} (x : α) : Nat → (List α → Pr) → Pr
  | 0, k => k []
  | n + 1, k => repK x n fun xs => k (x :: xs)
theorem repK_eq {α : Type} (x : α) (n : Nat) (k : List α → Pr) : repK x n k = k (List.replicate n x) := by
  induction n generalizing k with
  | zero => rfl
  | succ n ih => simp only [repK, ih, List.replicate_succ]
def prBuildSlice (P : Program) (nt : Nat) (o : Oper) (t : TypeId) (len : Nat) (parts : Array (Nat × Operand)) : Pr := match P.underlying t with
  | some (.slice e) => match len with
    | 0 => match parts.toList with
      | [] => szK P e fun n => match n with
        | 0 => .fail
        | n + 1 => newK nt o (fun g => .arr g false (n + 1) []) fun id g => .own id g
      | _ => .fail
    | len + 1 => zeroK P e fun l => szK P e fun n => match Nat.beq l.length n, Nat.ble ((len + 1) * n) 16777216, n with
      | true, true, n + 1 => shLK l fun l' => repK l' (len + 1) fun xs => fillS (n + 1) parts.toList xs fun ys => newK nt o (fun g => .arr g false (n + 1) ys) fun id g => .own id g
      | _, _, _ => .fail
  | _ => .fail
theorem flat_rep {σ : Nat → Nat → Value → Prop} {l : List V} {z : Array Value} {n len : Nat} (hl : l.length = n) (hz : z.size = n) (hc : ∀ (j : Nat) (p : V), l[j]? = some p → ∃ c, z.toList[j]? = some c ∧ Sh σ p c) :
    Flat σ n (List.replicate len l) ((Array.range (len * n)).map (z[· % z.size]!)).toList := by
  refine ⟨by simp, fun i x hi => ?_, fun i x j p hi hj => ?_⟩
  · rw [List.getElem?_replicate] at hi; split at hi
    · cases hi; exact hl
    · cases hi
  · rw [List.getElem?_replicate] at hi; split at hi
    · rename_i hil
      cases hi
      obtain ⟨c, h1, h2⟩ := hc j p hj
      have hjl : j < n := by rw [← hl]; exact (List.getElem?_eq_some_iff.1 hj).1
      refine ⟨c, ?_, h2⟩
      have hlt : i * n + j < len * n := mul_at hil hjl
      rw [Array.getElem?_toList, Array.getElem?_map, Array.getElem?_range, if_pos hlt]
      simp only [Option.map_some]
      have hmod : (i * n + j) % n = j := by rw [Nat.mul_comm, Nat.mul_add_mod, Nat.mod_eq_of_lt hjl]
      rw [hz, hmod, getElem!_pos z j (by omega)]
      rw [Array.getElem?_toList, Array.getElem?_eq_getElem (by omega)] at h1
      exact h1
    · cases hi
theorem prBuildSlice_ok [Env P] {t : TypeId} {len : Nat} {parts : Array (Nat × Operand)} (ho : o.op = .buildSlice t len parts) : OpS P nt o (prBuildSlice P nt o t len parts) := by
  intro E G s a w K next Q hnt hR hm hn
  unfold prBuildSlice at hm
  split at hm
  · rename_i e hu
    split at hm
    · split at hm
      · rename_i hp
        obtain ⟨ie, hie, hm⟩ := szK_spec hm
        split at hm
        · exact hm.elim
        · rename_i n hsz
          have hpe : parts = #[] := by simpa using hp
          have hr0 : Array.range 0 = #[] := Array.eq_empty_of_size_eq_zero (by simp)
          exact newK_ok (w' := { w with heap := w.heap.push (.cells #[] e) }) (b := .cells #[] e) (v := .slice (some ⟨w.heap.size, 0, none⟩) 0 0) (cap := 0) hnt hR hn hm
            (by simp [execOp, ho, hpe, Instr.buildSlice, run_underlying hu, run_sizeOf hie, Instr.fill, newRow, hr0]) (fun _ => rfl) rfl rfl rfl rfl
            (fun id s' _ hle g _ => newG_arr (fs := []) rfl hle ⟨by simp, fun i x hi => by simp at hi, fun i x j p hi => by simp at hi⟩ (Nat.succ_pos _) (Nat.le_refl _) (by simp) (by simp) false) (fun id g s' h => newG_own h)
      · exact hm.elim
    · rename_i len
      obtain ⟨ie, z, l, hie, hz, hzc, hm⟩ := zeroK_spec hm
      obtain ⟨ie', hie', hm⟩ := szK_spec hm
      rw [hie] at hie'; cases hie'
      split at hm
      · rename_i n hl hsmall hsz
        have hl := Nat.eq_of_beq_eq_true hl
        have hsmall := Nat.le_of_ble_eq_true hsmall
        have hsz : ie.size = n + 1 := hsz
        rw [hsz] at hsmall
        have hzs : z.cells.size = n + 1 := by rw [(hzc G w s.O).1, hl, ← hsz]
        obtain ⟨G1, s1, l', hR1, hle1, hV1, hm, hlen, hcells⟩ := shLK_ok (xs := z.cells.toList) hR (by simpa using (hzc G w s.O).1.symm) (fun j p hj => by simpa using (hzc G w s.O).2 j p hj) hm
        rw [repK_eq] at hm
        have hf := flat_rep (len := len + 1) (by rw [hlen]; simpa using hzs) hzs hcells
        obtain ⟨G2, s2, ys, cs', hR2, hle2, hm, h5, h6, h7⟩ := fillS_ok hR1 hm hf
        have h7 : ys.length = len + 1 := by simpa using h7
        have hrun := run_buildSlice (P := P) w t e (len + 1) (parts.map fun (i, x) => (i, a.eval x)) cs' ie z hu hie hz (by rw [hsz]; exact Nat.not_lt.2 hsmall) (by rw [hsz]; simp) (by rw [hsz, Array.toList_map]; exact h5)
        exact newK_ok (w' := w.alloc (.cells cs' e)) (b := .cells cs' e) (v := .slice (some ⟨w.heap.size, 0, none⟩) (len + 1) (len + 1)) (cap := len + 1) hnt hR2 hn hm
          (by simp only [execOp, ho, Sem.run_bind, hrun, Result.andThen_ok]; rfl) (fun _ => rfl) rfl rfl rfl rfl
          (fun id s' _ hle g _ => newG_arr rfl hle h6 (Nat.succ_pos _) (by omega) (by have := h6.sz; simp at this; rw [this, h7]; exact Nat.le_refl _) (fun j c h => by simpa using h) false) (fun id g s' h => by rw [← h7]; exact newG_own h)
      · exact hm.elim
  · exact hm.elim
end
end Go.PV
namespace Go.PV
open Go Go.RowKit
section
variable {P : Program} {nt : Nat} {o : Oper}
theorem Flat.append {σ : Nat → Nat → Value → Prop} {n : Nat} {xs ys : List (List V)} {cs ds : List Value} (h : Flat σ n xs cs) (k : Flat σ n ys ds) : Flat σ n (xs ++ ys) (cs ++ ds) := by
  refine ⟨by simp [h.sz, k.sz, Nat.add_mul], fun i x hi => ?_, fun i x j p hi hj => ?_⟩
  · rw [List.getElem?_append] at hi; split at hi
    · exact h.ln i x hi
    · exact k.ln _ x hi
  · rw [List.getElem?_append] at hi; split at hi
    · rename_i hil
      obtain ⟨c, h1, h2⟩ := h.at_ i x j p hi hj
      refine ⟨c, ?_, h2⟩
      rw [List.getElem?_append_left (List.getElem?_eq_some_iff.1 h1).1]; exact h1
    · rename_i hil
      obtain ⟨c, h1, h2⟩ := k.at_ _ x j p hi hj
      refine ⟨c, ?_, h2⟩
      have e : i * n + j = cs.length + ((i - xs.length) * n + j) := by
        rw [h.sz]
        have : xs.length * n + (i - xs.length) * n = i * n := by rw [← Nat.add_mul]; congr 1; omega
        omega
      rw [e, List.getElem?_append_right (by omega), show cs.length + ((i - xs.length) * n + j) - cs.length = (i - xs.length) * n + j by omega]; exact h1
theorem Flat.nil {σ : Nat → Nat → Value → Prop} {n : Nat} : Flat σ n [] [] := ⟨by simp, fun i x hi => by simp at hi, fun i x j p hi => by simp at hi⟩
theorem Flat.one {σ : Nat → Nat → Value → Prop} {n : Nat} {xs : List (List V)} {cs : List Value} (h : Flat σ n xs cs) (h0 : 0 < n) : ∀ v ∈ cs, v.oneCell' = true := by
  intro v hv
  obtain ⟨k, hk⟩ := List.mem_iff_getElem?.1 hv
  have hlt : k < xs.length * n := by rw [← h.sz]; exact (List.getElem?_eq_some_iff.1 hk).1
  have hi : k / n < xs.length := (Nat.div_lt_iff_lt_mul h0).2 hlt
  have hj : k % n < n := Nat.mod_lt _ h0
  have hx := List.getElem?_eq_getElem hi
  have hxl := h.ln _ _ hx
  obtain ⟨c, h1, h2⟩ := h.at_ _ _ (k % n) _ hx (List.getElem?_eq_getElem (by omega))
  rw [Nat.div_add_mod' k n, hk] at h1; cases h1; exact h2.one
/-- where a slice's elements lie -/
def Lies (G : Gh) (w : World) (n : Nat) (ys : List (List V)) (v : Value) : Prop :=
  ((∃ a cap, v = .slice a 0 cap) ∧ ys = []) ∨ ∃ b off cap fs, v = .slice (some ⟨b, off, none⟩) ys.length cap ∧ ys.length ≤ cap ∧ Flat (stab G w) n ys fs ∧ ∀ (j : Nat) (c : Value), fs[j]? = some c → w.cell? ⟨b, off + j, none⟩ = some c
theorem lies_of {G : Gh} {w : World} {n : Nat} {ys : List (List V)} {b off cap : Nat} (h0 : 0 < n) (hl : ∀ (i : Nat) (x : List V), ys[i]? = some x → x.length = n) (hc : ys.length ≤ cap)
    (h : ∀ (i : Nat) (x : List V) (j : Nat) (p : V), ys[i]? = some x → x[j]? = some p → ∃ c, w.cell? ⟨b, off + (i * n + j), none⟩ = some c ∧ Sh (stab G w) p c) : Lies G w n ys (.slice (some ⟨b, off, none⟩) ys.length cap) := by
  refine .inr ⟨b, off, cap, (List.range (ys.length * n)).map fun k => (w.cell? ⟨b, off + k, none⟩).getD undef, rfl, hc, ⟨by simp, hl, fun i x j p hi hj => ?_⟩, fun k c hk => ?_⟩
  · obtain ⟨c, h1, h2⟩ := h i x j p hi hj
    have hlt : i * n + j < ys.length * n := mul_at (List.getElem?_eq_some_iff.1 hi).1 (by rw [← hl i x hi]; exact (List.getElem?_eq_some_iff.1 hj).1)
    exact ⟨c, by simp [hlt, h1], h2⟩
  · rw [List.getElem?_map] at hk
    have hlt : k < ys.length * n := by
      rcases Nat.lt_or_ge k (ys.length * n) with h1 | h1
      · exact h1
      · rw [List.getElem?_eq_none (by simpa using h1)] at hk; cases hk
    rw [List.getElem?_range hlt] at hk
    simp only [Option.map_some, Option.some.injEq] at hk
    have hi : k / n < ys.length := (Nat.div_lt_iff_lt_mul h0).2 hlt
    have hj : k % n < n := Nat.mod_lt _ h0
    have hx := List.getElem?_eq_getElem hi
    have hxl := hl _ _ hx
    obtain ⟨c', h1, h2⟩ := h _ _ (k % n) _ hx (List.getElem?_eq_getElem (by omega))
    rw [Nat.div_add_mod'] at h1
    rw [h1] at hk ⊢; simpa using hk
def itemsK (n : Nat) (v : V) (k : List (List V) → Pr) : Pr := match v with
  | .nil => k []
  | .sl m xs => match Nat.beq m n with
    | true => k xs
    | false => .fail
  | .own id gen => arrK id gen fun _ m xs => match Nat.beq m n with
    | true => k xs
    | false => .fail
  | _ => .fail
theorem RG.lies {E : Ent} {G : Gh} {s : St} {a : Act} {w : World} (hR : RG E G s a w) {id gen n : Nat} {sh : Bool} {xs : List (List V)} (h : s.O id = some (.arr gen sh n xs)) : Lies G w n xs (hdr G id xs.length) := by
  cases hR.ob id _ h with
  | nil _ _ _ hn => rw [hdr, hn]; exact .inl ⟨⟨_, _, rfl⟩, rfl⟩
  | arr _ _ _ _ cs T lim hn hb hw h0 hl hc hz hs ht hh =>
    rw [hdr, hn]
    refine lies_of h0 hl hc fun i x j p hi hj => ?_
    obtain ⟨c, h1, h2⟩ := hh i x j p hi hj
    exact ⟨c, by rw [Nat.zero_add, cell_of_row w _ _ cs T _ hb]; exact h1, h2⟩
theorem itemsK_spec {E : Ent} {G : Gh} {s : St} {a : Act} {w : World} {K : St → Prop} {n : Nat} {v : V} {x : Value} {k : List (List V) → Pr} (hR : RG E G s a w) (hx : RV G w s.O v x) (h : (itemsK n v k).mwp s K) : ∃ ys, (k ys).mwp s K ∧ Lies G w n ys x := by
  unfold itemsK at h
  split at h
  · exact ⟨[], h, .inl ⟨⟨_, _, hx.nil_inv⟩, rfl⟩⟩
  · rename_i m xs
    split at h
    · rename_i hn
      have hn := Nat.eq_of_beq_eq_true hn; subst hn
      refine ⟨xs, h, ?_⟩
      have := hx.sl_inv
      cases this with
      | sl0 _ a c => exact .inl ⟨⟨a, c, rfl⟩, rfl⟩
      | sl _ _ b off cap c h0 hl hc hs hh =>
        exact lies_of h0 hl hc fun i x j p hi hj => ⟨c i j, by rw [← Nat.add_assoc]; exact (hs i x j p hi hj).2, hh i x j p hi hj⟩
    · exact h.elim
  · rename_i id gen
    obtain ⟨sh, m, xs, h1, h2⟩ := arrK_spec h
    clear h
    split at h2
    · rename_i hn
      have hn := Nat.eq_of_beq_eq_true hn; subst hn
      exact ⟨xs, h2, by rw [hx.own_inv h1]; exact hR.lies h1⟩
    · exact h2.elim
  · exact h.elim
/-- an object that is nil -/
def nilG (G : Gh) (id : Nat) : Gh := { G with isnil := upd G.isnil id true }
theorem nilG_le {G : Gh} {w : World} {s : St} {id : Nat} {o' : Ob} (hg : ∀ o, s.O id = some o → o.gen < o'.gen) : Le G w s.O (nilG G id) w (s.putO id o').O where
  hs _ _ _ h := h
  hk i o hi := by
    rw [St.O_putO]
    by_cases e : id = i
    · subst e; exact ⟨o', if_pos rfl, .inl (hg o hi)⟩
    · refine ⟨o, by rw [if_neg e]; exact hi, .inr ⟨rfl, rfl, rfl, fun _ => ⟨rfl, ?_⟩⟩⟩
      simp only [nilG]; rw [upd_ne _ _ (Ne.symm e)]
theorem nilG_rg {E : Ent} {G : Gh} {s : St} {a : Act} {w : World} {id g n : Nat} {sh : Bool} (hR : RG E G s a w) (hid : E.bx id = none) (hg : ∀ o, s.O id = some o → o.gen < g) : RG E (nilG G id) (s.putO id (.arr g sh n [])) a w := by
  have hle : Le G w s.O (nilG G id) w (s.putO id (.arr g sh n [])).O := nilG_le hg
  refine hR.upd (fun t => rfl) hle (fun i o hi => ?_) ⟨hR.fr.os, hR.fr.tape, hR.fr.output, hR.fr.size, hR.fr.st, hR.fr.im, hR.fr.bx⟩ (putO_box (.inl hid))
  rw [St.O_putO] at hi
  split at hi
  · rename_i e; subst e; cases hi; exact .nil _ _ _ (by simp [nilG, upd_same])
  · rename_i e
    refine (hR.ob i o hi).mono hle rfl rfl ?_ (fun _ => ⟨rfl, rfl⟩)
    simp only [nilG]; rw [upd_ne _ _ (Ne.symm e)]
/-- append onto nothing, as a law of memory -/
theorem append_nil_run {t ty e : TypeId} {i : TypeInfo} {z : Value} {n : Nat} {G : Gh} {w : World} {ys : List (List V)} {y : Value} (ht : P.underlying t = some (.slice e)) (hi : P.toTables.info? e = some i) (hz : i.zero = some z) (hsz : i.size = n) (hzs : z.cells.size = n) (hy : Lies G w n ys y) (hb : ys.length * i.bytes ≤ 140737488355328) (h63 : ys.length ≤ 9223372036854775807) :
    (ys = [] ∧ (Builtin.append_ #[t, t] ty #[.slice none 0 0, y]).run P w = .ok (.slice none 0 0) w) ∨
    ∃ cap cs fs w', (Builtin.append_ #[t, t] ty #[.slice none 0 0, y]).run P w = .ok (.slice (some ⟨w.heap.size, 0, none⟩) ys.length cap) w' ∧ w'.heap = w.heap.push (.cells cs e (0, 0)) ∧ w'.os = w.os ∧ w'.tape = w.tape ∧ w'.output = w.output ∧
      Flat (stab G w) n ys fs ∧ ys.length ≤ cap ∧ cap * n ≤ cs.size ∧ ∀ (j : Nat) (c : Value), fs[j]? = some c → cs[j]? = some c := by
  have none_run : ∀ {b : Option Addr} {c : Nat}, (Builtin.append_ #[t, t] ty #[.slice none 0 0, .slice b 0 c]).run P w = .ok (.slice none 0 0) w := by
    intro b c
    cases b with
    | none => simp [Builtin.append_, run_underlying ht, Go.sizeOf, typeInfo, hi, Builtin.lenOf, run_firstCells_none]
    | some ad =>
      have := run_firstCells_some (P := P) w i.size 0 ad 0 c [] (by simp) (by simp)
      simp [Builtin.append_, run_underlying ht, Go.sizeOf, typeInfo, hi, Builtin.lenOf, this]
  rcases hy with ⟨⟨_, _, rfl⟩, rfl⟩ | ⟨b, off, cap, fs, rfl, hcap, hf, hc⟩
  · exact .inl ⟨rfl, none_run⟩
  · by_cases h0 : ys = []
    · subst h0; exact .inl ⟨rfl, none_run⟩
    · have hpos : 0 < ys.length := List.length_pos_iff.2 h0
      have hr := run_append_nil (P := P) w t ty e i z ht hi hz ⟨b, off, none⟩ ys.length cap fs (by rw [hf.sz, hsz]) (fun j v hj => by rw [Addr.add_none]; exact hc j v hj) hpos (by omega) (by omega)
      refine .inr ⟨_, _, fs, _, hr, rfl, rfl, rfl, rfl, hf, grownCap_ge w ys.length 0 e, ?_, fun j c hj => ?_⟩
      · have h1 := grownCap_ge w ys.length 0 e
        rw [Array.size_append, List.size_toArray, hf.sz, size_zeroCells, hzs, ← Nat.add_mul]
        exact Nat.mul_le_mul_right n (by omega)
      · rw [Array.getElem?_append_left (by simpa using (List.getElem?_eq_some_iff.1 hj).1)]; simpa using hj
theorem append_room {t ty e : TypeId} {i : TypeInfo} {T : TypeId} {w : World} (ht : P.underlying t = some (.slice e)) (hi : P.toTables.info? e = some i)
    {g sLen sCap : Nat} {cur : Array Value} (hg : w.heap[g]? = some (.cells cur T (0, 0)))
    {a : Addr} {m c : Nat} {news : List Value} (hl : news.length = m * i.size) (hnews : ∀ (j : Nat) (u : Value), news[j]? = some u → w.cell? (a.add j) = some u) (h1 : ∀ u ∈ news, u.oneCell' = true)
    (hroom : sLen + m ≤ sCap) (hfit : sLen * i.size + news.length ≤ cur.size) :
    (Builtin.append_ #[t, t] ty #[.slice (some ⟨g, 0, none⟩) sLen sCap, .slice (some a) m c]).run P w =
      .ok (.slice (some ⟨g, 0, none⟩) (sLen + m) sCap) (w.setRow g (lay cur.toList (sLen * i.size) news).toArray) := by
  have hf := run_firstCells_some (P := P) w i.size m a m c news hl hnews
  have hst := run_storeCells_at P g (sLen * i.size) T news 0 cur w hg (by simpa using hfit) h1
  simp only [Nat.add_zero] at hst
  simp [Builtin.append_, run_underlying ht, Go.sizeOf, typeInfo, hi, Builtin.lenOf, hroom, hf, Addr.add_none, hst, lay]
theorem append_some_run {T t ty e : TypeId} {i : TypeInfo} {z : Value} {n : Nat} {G : Gh} {w : World} {xs ys : List (List V)} {y : Value} {blk cap : Nat} {cs : Array Value} {fs : List Value} (ht : P.underlying t = some (.slice e)) (hi : P.toTables.info? e = some i) (hz : i.zero = some z) (hsz : i.size = n) (hzs : z.cells.size = n) (h0 : 0 < n) (hy : Lies G w n ys y)
    (hb : (xs.length + ys.length) * i.bytes ≤ 140737488355328) (h63 : xs.length + ys.length ≤ 9223372036854775807) (hblk : w.heap[blk]? = some (.cells cs T (0, 0))) (hxs : Flat (stab G w) n xs fs) (hfs : ∀ (j : Nat) (c : Value), fs[j]? = some c → cs[j]? = some c) (hcap : xs.length ≤ cap) (hcz : cap * n ≤ cs.size) :
    (xs.length + ys.length ≤ cap ∧ ∃ ds, Flat (stab G w) n ys ds ∧ (Builtin.append_ #[t, t] ty #[.slice (some ⟨blk, 0, none⟩) xs.length cap, y]).run P w = .ok (.slice (some ⟨blk, 0, none⟩) (xs.length + ys.length) cap) (w.setRow blk (lay cs.toList (xs.length * n) ds).toArray)) ∨
    ∃ cap' cs' gs w', (Builtin.append_ #[t, t] ty #[.slice (some ⟨blk, 0, none⟩) xs.length cap, y]).run P w = .ok (.slice (some ⟨w.heap.size, 0, none⟩) (xs.length + ys.length) cap') w' ∧ w'.heap = w.heap.push (.cells cs' e (0, 0)) ∧ w'.os = w.os ∧ w'.tape = w.tape ∧ w'.output = w.output ∧
      Flat (stab G w) n (xs ++ ys) gs ∧ (xs ++ ys).length ≤ cap' ∧ cap' * n ≤ cs'.size ∧ ∀ (j : Nat) (c : Value), gs[j]? = some c → cs'[j]? = some c := by
  have self : w.setRow blk (lay cs.toList (xs.length * n) []).toArray = w := by
    have : lay cs.toList (xs.length * n) [] = cs.toList := by simp [lay]
    rw [this]; simpa using setRow_self w blk cs T (0, 0) hblk
  have none_run : ∀ {a : Option Addr} {c : Nat}, ys = [] → (Builtin.append_ #[t, t] ty #[.slice (some ⟨blk, 0, none⟩) xs.length cap, .slice a 0 c]).run P w = .ok (.slice (some ⟨blk, 0, none⟩) xs.length cap) w := by
    intro a c _
    cases a with
    | none => simp [Builtin.append_, run_underlying ht, Go.sizeOf, typeInfo, hi, Builtin.lenOf, run_firstCells_none, hcap, storeCells]
    | some ad =>
      have := run_firstCells_some (P := P) w i.size 0 ad 0 c [] (by simp) (by simp)
      simp [Builtin.append_, run_underlying ht, Go.sizeOf, typeInfo, hi, Builtin.lenOf, this, hcap, storeCells]
  rcases hy with ⟨⟨_, _, rfl⟩, rfl⟩ | ⟨b, off, cap2, ds, rfl, hcap2, hf, hc⟩
  · refine .inl ⟨by simpa using hcap, [], Flat.nil, ?_⟩
    rw [self]; exact none_run rfl
  · by_cases hroom : xs.length + ys.length ≤ cap
    · refine .inl ⟨hroom, ds, hf, ?_⟩
      have hfit : xs.length * n + ds.length ≤ cs.size := by
        rw [hf.sz, ← Nat.add_mul]; exact Nat.le_trans (Nat.mul_le_mul_right n hroom) hcz
      have hr := append_room (P := P) (ty := ty) ht hi hblk (a := ⟨b, off, none⟩) (m := ys.length) (c := cap2) (news := ds) (by rw [hf.sz, hsz]) (fun j v hj => by rw [Addr.add_none]; exact hc j v hj) (hf.one h0) hroom (by rw [hsz]; exact hfit)
      rw [hsz] at hr
      exact hr
    · have holds : ∀ (j : Nat) (v : Value), fs[j]? = some v → w.cell? ((⟨blk, 0, none⟩ : Addr).add j) = some v := fun j v hj => by
        rw [Addr.add_none, Nat.zero_add, cell_of_row w _ _ cs T _ hblk]; exact hfs j v hj
      have hr := run_append_grow (P := P) w t ty e i z ht hi hz ⟨blk, 0, none⟩ xs.length cap fs (by rw [hxs.sz, hsz]) holds ⟨b, off, none⟩ ys.length cap2 ds (by rw [hf.sz, hsz]) (fun j v hj => by rw [Addr.add_none]; exact hc j v hj) (by omega) (by omega) (growslice_fits (by omega) hb)
      refine .inr ⟨_, _, fs ++ ds, _, hr, rfl, rfl, rfl, rfl, hxs.append hf, by rw [List.length_append]; exact grownCap_ge w _ cap e, ?_, fun j c hj => ?_⟩
      · have h1 := grownCap_ge w (xs.length + ys.length) cap e
        rw [Array.size_append, Array.size_append, List.size_toArray, List.size_toArray, hxs.sz, hf.sz, size_zeroCells, hzs, ← Nat.add_mul, ← Nat.add_mul]
        exact Nat.mul_le_mul_right n (by omega)
      · have hlt := (List.getElem?_eq_some_iff.1 hj).1
        rw [Array.getElem?_append_left (by simpa using hlt)]
        have : (fs.toArray ++ ds.toArray) = (fs ++ ds).toArray := by simp
        rw [this]; simpa using hj
end
end Go.PV
namespace Go.PV
open Go Go.RowKit
section
variable {P : Program} {nt : Nat} {o : Oper}
def prAppend (P : Program) (nt : Nat) (o : Oper) (t t' : TypeId) (x y : Operand) : Pr := match Nat.beq t t', P.underlying t with
  | true, some (.slice e) => match P.toTables.info? e with
    | some ie => match ie.zero with
      | some z => match ie.size, Nat.beq z.cells.size ie.size, Nat.ble ie.bytes 1024 with
        | n + 1, true, true => rdV x fun u => rdV y fun v => itemsK (n + 1) v fun ys => match u with
          | .nil => .ex PUnit (fun _ => ys.length ≤ 137438953472) fun _ => newK nt o (fun g => .arr g false (n + 1) ys) fun id g => .own id g
          | .own id gen => arrK id gen fun sh m xs => match Nat.beq m (n + 1) with
            | true => .ex PUnit (fun _ => xs.length + ys.length ≤ 137438953472) fun _ => .putO id (.arr (gen + 1) sh (n + 1) (xs ++ ys)) (setD nt o.dst (.own id (gen + 1)) .done)
            | false => .fail
          | _ => .fail
        | _, _, _ => .fail
      | none => .fail
    | none => .fail
  | _, _ => .fail
theorem run_call_append {t t' : TypeId} {x y : Operand} (ho : o.op = .call { callee := .builtin .append, args := #[x, y], argTypes := #[t, t'] }) (ρ : Operand → Value) (w : World) :
    (execOp ρ o).run P w = ((Builtin.append_ #[t, t'] o.type #[ρ x, ρ y]).run P w).andThen fun v w => .ok (.value v) w := by
  simp [execOp, ho, resolve, invoke, builtin]
theorem nilOwn {G : Gh} {w : World} {O : Tb} {id g n : Nat} {sh : Bool} (hn : G.isnil id = true) (h : O id = some (.arr g sh n [])) : RV G w O (.own id g) (.slice none 0 0) :=
  .any _ _ (.cell _ _ (.own _ _ _ _ rfl h (Nat.le_refl _) fun m len _ e => by simp [hdr, hn]))
theorem prAppend_ok [Env P] {t t' : TypeId} {x y : Operand} (ho : o.op = .call { callee := .builtin .append, args := #[x, y], argTypes := #[t, t'] }) : OpS P nt o (prAppend P nt o t t' x y) := by
  intro E G s a w K next Q hnt hR hm hn
  unfold prAppend at hm
  split at hm
  case h_2 => exact hm.elim
  rename_i e htt hu
  have htt := Nat.eq_of_beq_eq_true htt; subst htt
  split at hm
  case h_2 => exact hm.elim
  rename_i ie hie
  split at hm
  case h_2 => exact hm.elim
  rename_i z hz
  split at hm
  case h_2 => exact hm.elim
  rename_i n hsz hzs hby
  have hzs := Nat.eq_of_beq_eq_true hzs
  have hsz : ie.size = n + 1 := hsz
  rw [hsz] at hzs
  have hby := Nat.le_of_ble_eq_true hby
  simp only [rdV_mwp] at hm
  obtain ⟨ys, hm, hy⟩ := itemsK_spec hR (ev_sound hR y) hm
  have hx := ev_sound hR x
  have hrun := run_call_append (P := P) ho a.eval w
  have bound : ∀ k, k ≤ 137438953472 → k * ie.bytes ≤ 140737488355328 := fun k hk => Nat.le_trans (Nat.mul_le_mul hk hby) (by decide)
  split at hm
  · rename_i e1
    rw [e1] at hx
    obtain ⟨_, hb, hm⟩ := hm
    rw [hx.nil_inv] at hrun
    rcases append_nil_run (P := P) (ty := o.type) hu hie hz hsz hzs hy (bound _ hb) (by omega) with ⟨rfl, hr⟩ | ⟨cap, cs, fs, w', hr, hw, h1, h2, h3, hf, hc, hcz, hp⟩
    · rw [hr] at hrun
      unfold newK at hm
      split at hm
      · exact hm.elim
      · rename_i d hd
        simp only [Pr.mwp] at hm
        obtain ⟨g, hg, hm⟩ := genK_spec hm
        simp only [Pr.mwp] at hm
        have hR' : RG E _ (s.putO (64 + d) (.arr g false (n + 1) [])) a w := nilG_rg hR (by cases e : E.bx (64 + d) with | none => rfl | some b => have := (hR.fr.bx _ b e).1; omega) hg
        obtain ⟨s', hk, hR2⟩ := setD_put hnt hR' (nilOwn (by simp [nilG, upd_same]) (by rw [St.O_putO, if_pos rfl])) hm
        exact opwp_value hrun (hn _ _ _ hk (by rw [hd]; exact ⟨_, hR2⟩))
    · rw [hr] at hrun
      exact newK_ok (v := .slice (some ⟨w.heap.size, 0, none⟩) ys.length cap) (cap := cap) hnt hR hn hm hrun (fun _ => rfl) hw h1 h2 h3
        (fun id s' _ hle g _ => newG_arr hw hle hf (Nat.succ_pos _) hc hcz hp false) (fun id g s' h => newG_own h)
  · rename_i id gen e1
    rw [e1] at hx
    obtain ⟨sh, m, xs, hO, hm⟩ := arrK_spec hm
    split at hm
    case h_2 => exact hm.elim
    rename_i hmn
    have hmn := Nat.eq_of_beq_eq_true hmn; subst hmn
    obtain ⟨_, hb, hm⟩ := hm
    simp only [Pr.mwp] at hm
    rw [hx.own_inv hO] at hrun
    have hgen : ∀ o, s.O id = some o → o.gen < (Ob.arr (gen + 1) sh (n + 1) (xs ++ ys)).gen := fun o e => by rw [hO] at e; cases e; exact Nat.lt_succ_self _
    have hO' : (s.putO id (.arr (gen + 1) sh (n + 1) (xs ++ ys))).O id = some (.arr (gen + 1) sh (n + 1) (xs ++ ys)) := by rw [St.O_putO, if_pos rfl]
    have grown : ∀ {w' : World} {cap : Nat} {cs : Array Value} {fs : List Value}, (execOp a.eval o).run P w = .ok (.value (.slice (some ⟨w.heap.size, 0, none⟩) (xs ++ ys).length cap)) w' → w'.heap = w.heap.push (.cells cs e (0, 0)) → w'.os = w.os → w'.tape = w.tape → w'.output = w.output →
        Flat (stab G w) (n + 1) (xs ++ ys) fs → (xs ++ ys).length ≤ cap → cap * (n + 1) ≤ cs.size → (∀ (j : Nat) (c : Value), fs[j]? = some c → cs[j]? = some c) → o.wp P a w next Q := by
      intro w' cap cs fs hr hw h1 h2 h3 hf hc hcz hp
      have hle := newG_le (G := G) (s := s) (cap := cap) hw hgen
      have hR' : RG E _ (s.putO id (.arr (gen + 1) sh (n + 1) (xs ++ ys))) a w' := newG_rg hR (hR.arr_bx hO) hw h1 h2 h3 hgen (newG_arr hw hle hf (Nat.succ_pos _) hc hcz hp sh)
      obtain ⟨s', hk, hR2⟩ := setD_put hnt hR' (newG_own hO') hm
      exact opwp_value hr (hn _ _ _ hk ⟨_, hR2⟩)
    cases hR.ob id _ hO with
    | nil _ _ _ hnl =>
      simp only [hdr, hnl, if_true] at hrun
      rcases append_nil_run (P := P) (ty := o.type) hu hie hz hsz hzs hy (bound _ (by simpa using hb)) (by simp at hb; omega) with ⟨rfl, hr⟩ | ⟨cap, cs, fs, w', hr, hw, h1, h2, h3, hf, hc, hcz, hp⟩
      · rw [hr] at hrun
        have hR' : RG E G (s.putO id (.arr (gen + 1) sh (n + 1) ([] ++ []))) a w := sam_rg hR hO (.inl (hR.arr_bx hO)) (.inl (Nat.lt_succ_self _)) (.nil _ _ _ hnl)
        obtain ⟨s', hk, hR2⟩ := setD_put hnt hR' (nilOwn hnl hO') hm
        exact opwp_value hrun (hn _ _ _ hk ⟨_, hR2⟩)
      · rw [hr] at hrun
        exact grown (by simpa using hrun) hw h1 h2 h3 (by simpa using hf) (by simpa using hc) hcz hp
    | arr _ _ _ _ cs T lim hnl hblk hw h0 hl hc hzz hs ht hh =>
      simp only [hdr, hnl, Bool.false_eq_true, if_false] at hrun
      have hfl : Flat (stab G w) (n + 1) xs (cs.toList.take (xs.length * (n + 1))) := by
        refine ⟨?_, hl, fun i x j p hi hj => ?_⟩
        · have : xs.length * (n + 1) ≤ G.cap id * (n + 1) := Nat.mul_le_mul_right _ hc
          simp; omega
        · obtain ⟨c, h1, h2⟩ := hh i x j p hi hj
          have hlt : i * (n + 1) + j < xs.length * (n + 1) := mul_at (List.getElem?_eq_some_iff.1 hi).1 (by rw [← hl i x hi]; exact (List.getElem?_eq_some_iff.1 hj).1)
          exact ⟨c, by rw [List.getElem?_take, if_pos hlt]; simpa using h1, h2⟩
      have hfs : ∀ (j : Nat) (c : Value), (cs.toList.take (xs.length * (n + 1)))[j]? = some c → cs[j]? = some c := fun j c hj => by
        rw [List.getElem?_take] at hj; split at hj
        · simpa using hj
        · cases hj
      rcases append_some_run (P := P) (ty := o.type) hu hie hz hsz hzs (Nat.succ_pos n) hy (bound _ hb) (by omega) hblk hfl hfs hc hzz with ⟨hroom, ds, hds, hr⟩ | ⟨cap, cs', gs, w', hr, hw', h1, h2, h3, hf, hc', hcz, hp⟩
      · rw [hr] at hrun
        have hcap : (xs ++ ys).length ≤ G.cap id := by rw [List.length_append]; exact hroom
        have hlen : ds.length = ys.length * (n + 1) := hds.sz
        have hfit : xs.length * (n + 1) + ds.length ≤ cs.toList.length := by
          rw [hlen, ← Nat.add_mul]; exact Nat.le_trans (Nat.mul_le_mul_right _ hroom) (by simpa using hzz)
        have hst : ∀ off c, stab G w (G.blk id) off c → off < lim ∧ (w.setRow (G.blk id) (lay cs.toList (xs.length * (n + 1)) ds).toArray).cell? ⟨G.blk id, off, none⟩ = some c := fun off c hoc => by
          have hlt := hoc.1 lim (by rw [hw])
          refine ⟨hlt, ?_⟩
          rw [cell_of_row _ _ _ _ T _ (setRow_heap w _ _ _ T _ hblk), List.getElem?_toArray, lay_get _ _ _ _ hfit, if_neg (by omega)]
          have := hoc.2
          rw [cell_of_row w _ _ cs T _ hblk] at this; simpa using this
        have hne := setRow_heap_ne w (G.blk id) (lay cs.toList (xs.length * (n + 1)) ds).toArray
        have hle := limG_le (G := G) (s := s) (o' := .arr (gen + 1) sh (n + 1) (xs ++ ys)) hO hne hst (.inl (Nat.lt_succ_self _))
        have hR' := limG_rg (o' := .arr (gen + 1) sh (n + 1) (xs ++ ys)) hR hO (.inl (hR.arr_bx hO)) (.inl hnl) hne (by simp) rfl rfl rfl hst (.inl (Nat.lt_succ_self _)) (by
          refine .arr _ _ _ _ _ T lim hnl (setRow_heap w _ _ _ T _ hblk) (by simp [limG, upd_same]) h0 (hfl.append hds).ln hcap ?_ hs ?_ (fun i x j p hi hj => ?_)
          · rw [List.size_toArray, lay_length _ _ _ hfit, Array.length_toList]; exact hzz
          · rw [List.length_append]; exact Nat.le_trans ht (Nat.mul_le_mul_right _ (Nat.le_add_right _ _))
          · obtain ⟨c, h1, h2⟩ := (hfl.append hds).at_ i x j p hi hj
            refine ⟨c, ?_, h2.mono hle.hs⟩
            have hk := (List.getElem?_eq_some_iff.1 h1).1
            rw [List.length_append, hfl.sz] at hk
            rw [List.getElem?_toArray, lay_get _ _ _ _ hfit]
            rw [List.getElem?_append, hfl.sz] at h1
            split at h1
            · rename_i hlt
              rw [if_neg (by omega)]; simpa using hfs _ _ h1
            · rename_i hge
              rw [if_pos (by omega)]; exact h1)
        have hv : RV (limG G id lim) (w.setRow (G.blk id) (lay cs.toList (xs.length * (n + 1)) ds).toArray) (s.putO id (.arr (gen + 1) sh (n + 1) (xs ++ ys))).O (.own id (gen + 1)) (.slice (some ⟨G.blk id, 0, none⟩) (xs.length + ys.length) (G.cap id)) := by
          refine .any _ _ (.cell _ _ (.own _ _ _ _ rfl hO' (Nat.le_refl _) fun m len _ e => ?_))
          simp only [Ob.sig, Option.some.injEq, Prod.mk.injEq, List.length_append] at e
          simp [hdr, limG, hnl, e.2]
        obtain ⟨s', hk, hR2⟩ := setD_put hnt hR' hv hm
        exact opwp_value hrun (hn _ _ _ hk ⟨_, hR2⟩)
      · rw [hr] at hrun
        exact grown (by rw [List.length_append]; exact hrun) hw' h1 h2 h3 hf hc' hcz hp
  · exact hm.elim
/-- how long -/
def prLen (P : Program) (nt : Nat) (o : Oper) (t : TypeId) (x : Operand) : Pr := rdV x fun v => match P.underlying t, v with
  | some .string, .str l => setD nt o.dst (.int .i64 l.length) .done
  | some (.slice _), .sl _ xs => setD nt o.dst (.int .i64 xs.length) .done
  | some (.slice _), .nil => setD nt o.dst (.int .i64 0) .done
  | some (.slice _), .own id gen => arrK id gen fun _ _ xs => setD nt o.dst (.int .i64 xs.length) .done
  | _, _ => .fail
theorem prLen_ok [Env P] {t : TypeId} {x : Operand} (ho : o.op = .call { callee := .builtin .len, args := #[x], argTypes := #[t] }) : OpS P nt o (prLen P nt o t x) := by
  refine .pure fun E G s a w K hR hm => ?_
  simp only [prLen, rdV_mwp] at hm
  have hx := ev_sound hR x
  split at hm
  · rename_i l hu e1
    rw [e1] at hx
    exact ⟨_, .int .i64 l.length, hm, by simp [execOp, ho, resolve, invoke, builtin, Builtin.len_, hx.str_inv, run_underlying hu, str_size, goInt], .of_sh (.int _ _)⟩
  · rename_i e n xs hu e1
    rw [e1] at hx
    have : ∃ ad c, a.eval x = .slice ad xs.length c := by have := hx.sl_inv; revert this; generalize a.eval x = v; intro h; cases h with | sl0 => exact ⟨_, _, rfl⟩ | sl => exact ⟨_, _, rfl⟩
    obtain ⟨ad, c, e2⟩ := this
    exact ⟨_, .int .i64 xs.length, hm, by simp [execOp, ho, resolve, invoke, builtin, Builtin.len_, e2, run_underlying hu, goInt], .of_sh (.int _ _)⟩
  · rename_i e hu e1
    rw [e1] at hx
    exact ⟨_, .int .i64 0, hm, by simp [execOp, ho, resolve, invoke, builtin, Builtin.len_, hx.nil_inv, run_underlying hu, goInt], .of_sh (.int _ _)⟩
  · rename_i e id gen hu e1
    rw [e1] at hx
    obtain ⟨sh, n, xs, hO, hm⟩ := arrK_spec hm
    have : ∃ ad c, a.eval x = .slice ad xs.length c := by
      rw [hx.own_inv hO, hdr]
      cases hR.ob id _ hO with
      | nil _ _ _ hn => rw [hn]; exact ⟨_, _, rfl⟩
      | arr _ _ _ _ _ _ _ hn => rw [hn]; exact ⟨_, _, rfl⟩
    obtain ⟨ad, c, e2⟩ := this
    exact ⟨_, .int .i64 xs.length, hm, by simp [execOp, ho, resolve, invoke, builtin, Builtin.len_, e2, run_underlying hu, goInt], .of_sh (.int _ _)⟩
  · exact hm.elim
def prMin (nt : Nat) (o : Oper) (mx : Bool) (x y : Operand) : Pr := rdV x fun u => rdV y fun v => match u, v with
  | .int i m, .int _ n => match mx with
    | false => setD nt o.dst (.int i (if n < m then n else m)) .done
    | true => setD nt o.dst (.int i (if m < n then n else m)) .done
  | _, _ => .fail
theorem prMin_ok [Env P] {ts : Array TypeId} {x y : Operand} {mx : Bool} (ho : o.op = .call { callee := .builtin (if mx then .max else .min), args := #[x, y], argTypes := ts }) : OpS P nt o (prMin nt o mx x y) := by
  refine .pure fun E G s a w K hR hm => ?_
  simp only [prMin, rdV_mwp] at hm
  have hx := ev_sound hR x
  have hy := ev_sound hR y
  split at hm
  · rename_i i m j n e1 e2
    rw [e1] at hx; rw [e2] at hy
    cases mx with
    | false => exact ⟨_, .int i (if n < m then n else m), hm, by simp [execOp, ho, resolve, invoke, builtin, Builtin.min_, Builtin.min2, hx.int_inv, hy.int_inv], .of_sh (.int _ _)⟩
    | true => exact ⟨_, .int i (if m < n then n else m), hm, by simp [execOp, ho, resolve, invoke, builtin, Builtin.max_, Builtin.max2, hx.int_inv, hy.int_inv], .of_sh (.int _ _)⟩
  · exact hm.elim
/-- conversions: of numbers; of bytes to a string -/
def numOf : List V → Int
  | [.int _ n] => n
  | _ => 0
def prConv (P : Program) (nt : Nat) (o : Oper) (t u : TypeId) (x : Operand) : Pr := rdV x fun v => match P.underlying t, P.underlying u, v with
  | some (.int _), some (.int k), .int _ n => setD nt o.dst (.int k (k.wrap n)) .done
  | some (.slice e), some .string, v => match P.underlying e with
    | some (.int .u8) => itemsK 1 v fun ys => .ex PUnit (fun _ => ∀ y ∈ ys, ∃ n, y = [.int .u8 n]) fun _ => setD nt o.dst (.str (ys.map fun y => UInt8.ofNat (numOf y).toNat)) .done
    | _ => .fail
  | _, _, _ => .fail
theorem prConv_ok [Env P] {t u : TypeId} {x : Operand} (ho : o.op = .convert t u x) : OpS P nt o (prConv P nt o t u x) := by
  refine .pure fun E G s a w K hR hm => ?_
  simp only [prConv, rdV_mwp] at hm
  have hx := ev_sound hR x
  split at hm
  · rename_i k0 k i n h1 h2 e1
    rw [e1] at hx
    exact ⟨_, .int k (k.wrap n), hm, by simp [execOp, ho, convert, run_underlying h1, run_underlying h2, hx.int_inv, Conv.intToInt], .of_sh (.int _ _)⟩
  · rename_i e hs hd
    split at hm
    · rename_i he
      obtain ⟨ys, ⟨_, hb, hm⟩, hl⟩ := itemsK_spec hR hx hm
      have run : (convert t u (a.eval x)).run P w = .ok (.string ⟨(ys.map fun y => UInt8.ofNat (numOf y).toNat).toArray⟩) w := by
        rcases hl with ⟨⟨ad, cc, h1⟩, rfl⟩ | ⟨b, off, cap, fs, h1, hc, hf, hcell⟩
        · rw [h1]
          cases ad with
          | none => rw [run_convert_bytes_nil w t e hs he 0 cc u hd]; rfl
          | some ad =>
            have hl : (loadCells ad 0).run P w = .ok #[] w := by simpa using run_loadCells_list (P := P) w ad [] (fun j v hj => by simp at hj)
            rw [run_convert_bytes_string w t u e _ 0 cc hs he hd]
            simp [Conv.bytesToString, hl]
            rfl
        · rw [h1, run_convert_bytes_arg w t e hs he b off ys.length cap (ys.map numOf) (by simp) (fun i hi => ?_) u hd]
          · simp [strOfNums, Function.comp_def]
          · have hx := List.getElem?_eq_getElem hi
            obtain ⟨n, hn⟩ := hb _ (List.getElem_mem hi)
            rw [hn] at hx
            obtain ⟨c, h2, h3⟩ := hf.at_ i _ 0 _ hx rfl
            cases h3
            rw [hcell i _ (by simpa using h2)]
            simp [List.getD, hx, numOf]
      exact ⟨_, _, hm, by simp only [execOp, ho, Sem.run_bind, run, Result.andThen_ok]; rfl, .of_sh (.str _)⟩
    · exact hm.elim
  · exact hm.elim
end
end Go.PV
namespace Go.PV
open Go Go.RowKit
/-! names of objects: a call's own (a place in a list, time 0) and the caller's -/
abbrev Ids := List (Nat × Nat)
def renB (ids : Ids) : V → V
  | .ptr k _ off => match ids[k]? with
    | some (id, g) => .ptr id g off
    | none => .dead
  | .own k _ => match ids[k]? with
    | some (id, g) => .own id g
    | none => .dead
  | .mp k _ => match ids[k]? with
    | some (id, g) => .mp id g
    | none => .dead
  | v => v
def renC (ids : Ids) : V → V
  | .fn f cs => .fn f (cs.map (renB ids))
  | v => renB ids v
def renA (ids : Ids) : V → V
  | .agg l => .agg (l.map (renC ids))
  | v => renC ids v
def okB (m : Nat) : V → Bool
  | .ptr k g _ => Nat.blt k m && Nat.beq g 0
  | .own k g => Nat.blt k m && Nat.beq g 0
  | .mp k g => Nat.blt k m && Nat.beq g 0
  | .fn _ cs => cs.isEmpty
  | .agg _ => false
  | .tup _ => false
  | .elp _ _ _ _ => false
  | .rp _ => false
  | _ => true
def okC (m : Nat) : V → Bool
  | .fn _ cs => cs.all (okB m)
  | v => okB m v
def okA (m : Nat) : V → Bool
  | .agg l => l.all (okC m)
  | v => okC m v
def renO (ids : Ids) (g : Nat) : Ob → Ob
  | .box _ cells => .box g (cells.map (renC ids))
  | .arr _ sh n xs => .arr g sh n xs
def okO (m : Nat) : Ob → Bool
  | .box g cells => Nat.beq g 0 && cells.all (okC m)
  | .arr g _ _ _ => Nat.beq g 0
def tbl (os : List Ob) : Tb := fun k => os[k]?
/-- the table has the objects, under their names -/
def Named (ids : Ids) (os : List Ob) (O : Tb) : Prop := ids.length = os.length ∧ ∀ (k : Nat) (o : Ob) (id g : Nat), os[k]? = some o → ids[k]? = some (id, g) → O id = some (renO ids g o)
def Dist (ids : Ids) : Prop := ∀ (i j : Nat) (a b : Nat × Nat), ids[i]? = some a → ids[j]? = some b → a.1 = b.1 → i = j
def find (ids : Ids) (id : Nat) : Option Nat := ids.findIdx? fun p => Nat.beq p.1 id
theorem find_some {ids : Ids} {id k : Nat} (h : find ids id = some k) : ∃ g, ids[k]? = some (id, g) := by
  unfold find at h
  obtain ⟨hk, h1, _⟩ := List.findIdx?_eq_some_iff_getElem.1 h
  refine ⟨ids[k].2, ?_⟩
  rw [List.getElem?_eq_getElem hk]
  have := Nat.eq_of_beq_eq_true h1
  rw [← this]
theorem find_of {ids : Ids} {id k g : Nat} (hd : Dist ids) (h : ids[k]? = some (id, g)) : find ids id = some k := by
  cases hf : find ids id with
  | some j => obtain ⟨g', h1⟩ := find_some hf; rw [hd j k _ _ h1 h rfl]
  | none =>
    unfold find at hf
    rw [List.findIdx?_eq_none_iff] at hf
    have := hf _ (List.mem_of_getElem? h)
    simp at this
/-- the call's own ghost -/
def downG (ids : Ids) (G : Gh) : Gh where
  own b := ⟨(G.own b).ow.bind (find ids), (G.own b).lim⟩
  blk k := G.blk (ids.getD k (0, 0)).1
  cap k := G.cap (ids.getD k (0, 0)).1
  isnil k := G.isnil (ids.getD k (0, 0)).1
theorem getD_ids {ids : Ids} {k id g : Nat} (h : ids[k]? = some (id, g)) : (ids.getD k (0, 0)).1 = id := by rw [List.getD_eq_getElem?_getD, h]; rfl
theorem hdr_down {ids : Ids} {G : Gh} {k id g len : Nat} (h : ids[k]? = some (id, g)) : hdr (downG ids G) k len = hdr G id len := by
  unfold hdr downG; simp only [getD_ids h]
section
variable {ids : Ids} {os : List Ob} {O : Tb} {G : Gh} {w : World}
theorem renO_gen (ids : Ids) (g : Nat) (o : Ob) : (renO ids g o).gen = g := by cases o <;> rfl
theorem renO_sig (ids : Ids) (g : Nat) (o : Ob) : (renO ids g o).sig = o.sig := by cases o <;> rfl
theorem okO_gen {m : Nat} {o : Ob} (h : okO m o = true) : o.gen = 0 := by
  cases o <;> simp only [okO, Bool.and_eq_true] at h
  · exact Nat.eq_of_beq_eq_true h.1
  · exact Nat.eq_of_beq_eq_true h
theorem Named.at_ (hN : Named ids os O) (hok : ∀ o ∈ os, okO os.length o = true) {k : Nat} (hk : k < os.length) : ∃ id g o, ids[k]? = some (id, g) ∧ os[k]? = some o ∧ O id = some (renO ids g o) ∧ o.gen = 0 := by
  have hk' : k < ids.length := by rw [hN.1]; exact hk
  have h1 := List.getElem?_eq_getElem hk'
  have h2 := List.getElem?_eq_getElem hk
  exact ⟨ids[k].1, ids[k].2, os[k], h1, h2, hN.2 k _ _ _ h2 h1, okO_gen (hok _ (List.getElem_mem hk))⟩
theorem RA.not_agg {p : V} {v : Value} (h : RA G w O p v) (hn : ∀ l, p ≠ .agg l) : RC G w O p v := by
  cases h with
  | cell _ _ h => exact h
  | agg l => exact absurd rfl (hn l)
theorem renC_agg {ids : Ids} {p : V} (h : ∀ l, p ≠ .agg l) : ∀ l, renC ids p ≠ .agg l := by
  intro l e
  cases p <;> simp only [renC, renB] at e <;> first
    | exact absurd rfl (h _)
    | (cases e; done)
    | (split at e <;> cases e)
theorem downB (hN : Named ids os O) (hok : ∀ o ∈ os, okO os.length o = true) {p : V} {v : Value} (h : RC G w O (renB ids p) v) (hp : okB os.length p = true) : RC (downG ids G) w (tbl os) p v := by
  have at_ := fun {k} => Named.at_ hN hok (k := k)
  cases p with
  | ptr k g off =>
    simp only [okB, Bool.and_eq_true] at hp
    obtain ⟨id, g', o, h1, h2, h3, h4⟩ := at_ (show k < os.length by simpa using hp.1)
    have hg := Nat.eq_of_beq_eq_true hp.2; subst hg
    simp only [renB, h1] at h
    have e0 := h.one
    refine .ptr _ _ _ o _ e0 h2 (Nat.zero_le _) fun _ hs => ?_
    have : (downG ids G).blk k = G.blk id := by simp only [downG, getD_ids h1]
    rw [this]
    cases h with
    | sh _ _ h => cases h
    | ptr _ _ _ o' _ _ ho _ hv => rw [h3] at ho; cases ho; exact hv (renO_gen _ _ _).symm ((renO_sig _ _ _).trans hs)
  | own k g =>
    simp only [okB, Bool.and_eq_true] at hp
    obtain ⟨id, g', o, h1, h2, h3, h4⟩ := at_ (show k < os.length by simpa using hp.1)
    have hg := Nat.eq_of_beq_eq_true hp.2; subst hg
    simp only [renB, h1] at h
    have e0 := h.one
    refine .own _ _ o _ e0 h2 (Nat.zero_le _) fun n len _ hs => ?_
    rw [hdr_down h1]
    cases h with
    | sh _ _ h => cases h
    | own _ _ o' _ _ ho _ hv => rw [h3] at ho; cases ho; exact hv n len (renO_gen _ _ _).symm ((renO_sig _ _ _).trans hs)
  | mp k g =>
    simp only [okB, Bool.and_eq_true] at hp
    obtain ⟨id, g', o, h1, h2, h3, h4⟩ := at_ (show k < os.length by simpa using hp.1)
    have hg := Nat.eq_of_beq_eq_true hp.2; subst hg
    simp only [renB, h1] at h
    have e0 := h.one
    refine .mp _ _ o _ e0 h2 (Nat.zero_le _) fun _ hs => ?_
    have : (downG ids G).blk k = G.blk id := by simp only [downG, getD_ids h1]
    rw [this]
    cases h with
    | sh _ _ h => cases h
    | mp _ _ o' _ _ ho _ hv => rw [h3] at ho; cases ho; exact hv (renO_gen _ _ _).symm ((renO_sig _ _ _).trans hs)
  | fn f cs =>
    have : cs = [] := by simpa [okB] using hp
    subst this
    simp only [renB] at h
    cases h with
    | sh _ _ h => exact .sh _ _ h
    | fn _ _ cs c hl hc hh => exact .fn _ _ cs c hl hc (fun i p hi => by simp at hi)
  | agg l => simp [okB] at hp
  | tup l => simp [okB] at hp
  | elp => simp [okB] at hp
  | rp l => simp [okB] at hp
  | dead => exact .dead _ h.one
  | _ =>
    simp only [renB] at h
    cases h with
    | sh _ _ h => exact .sh _ _ h
theorem downC (hN : Named ids os O) (hok : ∀ o ∈ os, okO os.length o = true) {p : V} {v : Value} (h : RC G w O (renC ids p) v) (hp : okC os.length p = true) : RC (downG ids G) w (tbl os) p v := by
  cases p with
  | fn f cs =>
    simp only [renC] at h
    simp only [okC] at hp
    obtain ⟨d, h1, h2⟩ := (RV.any _ _ (.cell _ _ h)).fn_inv
    subst h1
    refine .fn f cs d (fun i => d.getD i undef) (by rw [h2.1]; simp) (fun i hi => ?_) (fun i p hi => ?_)
    · have : i < d.size := by rw [h2.1]; simpa using hi
      rw [Array.getElem?_eq_getElem this, Array.getD_eq_getD_getElem?, Array.getElem?_eq_getElem this]; rfl
    · obtain ⟨c, h3, h4⟩ := h2.2 i (renB ids p) (by rw [List.getElem?_map, hi]; rfl)
      rw [Array.getD_eq_getD_getElem?, h3]
      exact downB hN hok h4 (List.all_eq_true.1 hp p (List.mem_of_getElem? hi))
  | _ => exact downB hN hok h hp
theorem Cells.map_down {R R' : V → Value → Prop} {f : V → V} {q : V → Bool} (hr : ∀ p v, R (f p) v → q p = true → R' p v) {l : List V} {cs : Array Value} (h : Cells R (l.map f) cs) (hq : l.all q = true) : Cells R' l cs := by
  refine ⟨by rw [h.1]; simp, fun j p hj => ?_⟩
  obtain ⟨c, h1, h2⟩ := h.2 j (f p) (by rw [List.getElem?_map, hj]; rfl)
  exact ⟨c, h1, hr _ _ h2 (List.all_eq_true.1 hq p (List.mem_of_getElem? hj))⟩
theorem downA (hN : Named ids os O) (hok : ∀ o ∈ os, okO os.length o = true) {p : V} {v : Value} (h : RA G w O (renA ids p) v) (hp : okA os.length p = true) : RA (downG ids G) w (tbl os) p v := by
  cases p with
  | agg l =>
    simp only [renA] at h
    obtain ⟨cs, h1, h2⟩ := (RV.any _ _ h).agg_inv
    subst h1
    exact .agg _ _ (h2.map_down (q := okC os.length) (fun _ _ => downC hN hok) hp)
  | _ => exact .cell _ _ (downC hN hok (RA.not_agg h (renC_agg (by simp))) hp)
theorem renC_md {ids : Ids} {p : V} {d : MD} (h : renC ids p = .md d) : p = .md d := by
  cases p <;> simp only [renC, renB] at h <;> first
    | exact h
    | (cases h; done)
    | (split at h <;> cases h)
theorem map_md {ids : Ids} {l : List V} {d : MD} (h : l.map (renC ids) = [.md d]) : l = [.md d] := by
  cases l with
  | nil => cases h
  | cons x r =>
    cases r with
    | nil => simp only [List.map_cons, List.map_nil, List.cons.injEq, and_true] at h; rw [renC_md h]
    | cons y r => simp at h
theorem downO (hN : Named ids os O) (hd : Dist ids) (hok : ∀ o ∈ os, okO os.length o = true) {k id g : Nat} {o : Ob} (hk : os[k]? = some o) (hi : ids[k]? = some (id, g)) (h : RO G w O id (renO ids g o)) : RO (downG ids G) w (tbl os) k o := by
  have hblk : (downG ids G).blk k = G.blk id := by simp only [downG, getD_ids hi]
  have hown : ∀ l, G.own (G.blk id) = ⟨some id, l⟩ → (downG ids G).own ((downG ids G).blk k) = ⟨some k, l⟩ := by
    intro l e; rw [hblk]; simp only [downG, e, Option.bind_some, find_of hd hi]
  have ho := hok o (List.mem_of_getElem? hk)
  cases o with
  | box g0 cells =>
    simp only [okO, Bool.and_eq_true] at ho
    simp only [renO] at h
    generalize hl : cells.map (renC ids) = cl at h
    cases h with
    | box _ _ cs T hb hw hc =>
      subst hl
      exact .box _ _ cs T (by rw [hblk]; exact hb) (hown _ hw) (hc.map_down (q := okC os.length) (fun _ _ => downC hN hok) ho.2)
    | mp _ d es clock hb hw hm =>
      rw [map_md hl]
      exact .mp _ _ es clock (by rw [hblk]; exact hb) (hown _ hw) hm
  | arr g0 sh n xs =>
    have hcap : (downG ids G).cap k = G.cap id := by simp only [downG, getD_ids hi]
    have hnil : (downG ids G).isnil k = G.isnil id := by simp only [downG, getD_ids hi]
    cases h with
    | nil _ _ _ hn => exact .nil _ _ _ (by rw [hnil]; exact hn)
    | arr _ _ _ _ cs T lim hn hb hw h0 hl hc hz hs ht hh => exact .arr _ _ _ _ cs T lim (by rw [hnil]; exact hn) (by rw [hblk]; exact hb) (hown _ hw) h0 hl (by rw [hcap]; exact hc) (by rw [hcap]; exact hz) hs ht hh
end
/-- the caller's ghost, behind the call -/
def upG (ids : Ids) (sz : Nat) (G Gc G' : Gh) : Gh where
  own b := if b < sz ∧ (Gc.own b).ow = none then G.own b else ⟨(G'.own b).ow.bind fun k => (ids[k]?).map (·.1), (G'.own b).lim⟩
  blk id := match find ids id with | some k => G'.blk k | none => G.blk id
  cap id := match find ids id with | some k => G'.cap k | none => G.cap id
  isnil id := match find ids id with | some k => G'.isnil k | none => G.isnil id
section
variable {ids : Ids} {os : List Ob} {O : Tb} {G Gn : Gh} {w : World}
/-- up: the same, from the call's names to the caller's -/
theorem upB (hN : Named ids os O) (hs : ∀ b o c, stab G w b o c → stab Gn w b o c) (hb : ∀ (k id g : Nat), ids[k]? = some (id, g) → Gn.blk id = G.blk k ∧ Gn.cap id = G.cap k ∧ Gn.isnil id = G.isnil k) (hok : ∀ o ∈ os, okO os.length o = true) {p : V} {v : Value} (h : RC G w (tbl os) p v) (hp : okB os.length p = true) : RC Gn w O (renB ids p) v := by
  have at_ := fun {k} => Named.at_ hN hok (k := k)
  cases p with
  | ptr k g off =>
    simp only [okB, Bool.and_eq_true] at hp
    obtain ⟨id, g', o, h1, h2, h3, h4⟩ := at_ (show k < os.length by simpa using hp.1)
    have hg := Nat.eq_of_beq_eq_true hp.2; subst hg
    simp only [renB, h1]
    have e0 := h.one
    refine .ptr _ _ _ _ _ e0 h3 (by rw [renO_gen]; exact Nat.le_refl _) fun _ e => ?_
    rw [(hb k id g' h1).1]
    cases h with
    | sh _ _ h => cases h
    | ptr _ _ _ o' _ _ ho _ hv => rw [show tbl os k = some o from h2] at ho; cases ho; exact hv h4.symm ((renO_sig ids g' _).symm.trans e)
  | own k g =>
    simp only [okB, Bool.and_eq_true] at hp
    obtain ⟨id, g', o, h1, h2, h3, h4⟩ := at_ (show k < os.length by simpa using hp.1)
    have hg := Nat.eq_of_beq_eq_true hp.2; subst hg
    simp only [renB, h1]
    have e0 := h.one
    refine .own _ _ _ _ e0 h3 (by rw [renO_gen]; exact Nat.le_refl _) fun n len _ e => ?_
    obtain ⟨b1, b2, b3⟩ := hb k id g' h1
    have : hdr Gn id len = hdr G k len := by unfold hdr; rw [b1, b2, b3]
    rw [this]
    cases h with
    | sh _ _ h => cases h
    | own _ _ o' _ _ ho _ hv => rw [show tbl os k = some o from h2] at ho; cases ho; exact hv n len h4.symm ((renO_sig ids g' _).symm.trans e)
  | mp k g =>
    simp only [okB, Bool.and_eq_true] at hp
    obtain ⟨id, g', o, h1, h2, h3, h4⟩ := at_ (show k < os.length by simpa using hp.1)
    have hg := Nat.eq_of_beq_eq_true hp.2; subst hg
    simp only [renB, h1]
    have e0 := h.one
    refine .mp _ _ _ _ e0 h3 (by rw [renO_gen]; exact Nat.le_refl _) fun _ e => ?_
    rw [(hb k id g' h1).1]
    cases h with
    | sh _ _ h => cases h
    | mp _ _ o' _ _ ho _ hv => rw [show tbl os k = some o from h2] at ho; cases ho; exact hv h4.symm ((renO_sig ids g' _).symm.trans e)
  | fn f cs =>
    have : cs = [] := by simpa [okB] using hp
    subst this
    simp only [renB]
    cases h with
    | sh _ _ h => exact .sh _ _ (h.mono hs)
    | fn _ _ cs c hl hc hh => exact .fn _ _ cs c hl hc (fun i p hi => by simp at hi)
  | agg l => simp [okB] at hp
  | tup l => simp [okB] at hp
  | elp => simp [okB] at hp
  | rp l => simp [okB] at hp
  | dead => exact .dead _ h.one
  | _ =>
    simp only [renB]
    cases h with
    | sh _ _ h => exact .sh _ _ (h.mono hs)
theorem upC (hN : Named ids os O) (hs : ∀ b o c, stab G w b o c → stab Gn w b o c) (hb : ∀ (k id g : Nat), ids[k]? = some (id, g) → Gn.blk id = G.blk k ∧ Gn.cap id = G.cap k ∧ Gn.isnil id = G.isnil k) (hok : ∀ o ∈ os, okO os.length o = true) {p : V} {v : Value} (h : RC G w (tbl os) p v) (hp : okC os.length p = true) : RC Gn w O (renC ids p) v := by
  cases p with
  | fn f cs =>
    simp only [renC]
    simp only [okC] at hp
    obtain ⟨d, h1, h2⟩ := (RV.any _ _ (.cell _ _ h)).fn_inv
    subst h1
    refine .fn f _ d (fun i => d.getD i undef) (by rw [h2.1]; simp) (fun i hi => ?_) (fun i p hi => ?_)
    · have : i < d.size := by rw [h2.1]; simpa using hi
      rw [Array.getElem?_eq_getElem this, Array.getD_eq_getD_getElem?, Array.getElem?_eq_getElem this]; rfl
    · rw [List.getElem?_map] at hi
      cases hq : cs[i]? with
      | none => rw [hq] at hi; cases hi
      | some q =>
        rw [hq] at hi; simp only [Option.map_some, Option.some.injEq] at hi; subst hi
        obtain ⟨c, h3, h4⟩ := h2.2 i q hq
        rw [Array.getD_eq_getD_getElem?, h3]
        exact upB hN hs hb hok h4 (List.all_eq_true.1 hp q (List.mem_of_getElem? hq))
  | _ => exact upB hN hs hb hok h hp
theorem Cells.map_up {R R' : V → Value → Prop} {f : V → V} {q : V → Bool} (hr : ∀ p v, R p v → q p = true → R' (f p) v) {l : List V} {cs : Array Value} (h : Cells R l cs) (hq : l.all q = true) : Cells R' (l.map f) cs := by
  refine ⟨by rw [h.1]; simp, fun j p hj => ?_⟩
  rw [List.getElem?_map] at hj
  cases hl : l[j]? with
  | none => rw [hl] at hj; cases hj
  | some q' =>
    rw [hl] at hj; simp only [Option.map_some, Option.some.injEq] at hj; subst hj
    obtain ⟨c, h1, h2⟩ := h.2 j q' hl
    exact ⟨c, h1, hr _ _ h2 (List.all_eq_true.1 hq q' (List.mem_of_getElem? hl))⟩
theorem upA (hN : Named ids os O) (hs : ∀ b o c, stab G w b o c → stab Gn w b o c) (hb : ∀ (k id g : Nat), ids[k]? = some (id, g) → Gn.blk id = G.blk k ∧ Gn.cap id = G.cap k ∧ Gn.isnil id = G.isnil k) (hok : ∀ o ∈ os, okO os.length o = true) {p : V} {v : Value} (h : RA G w (tbl os) p v) (hp : okA os.length p = true) : RA Gn w O (renA ids p) v := by
  cases p with
  | agg l =>
    simp only [renA]
    obtain ⟨cs, h1, h2⟩ := (RV.any _ _ h).agg_inv
    subst h1
    exact .agg _ _ (h2.map_up (q := okC os.length) (fun _ _ => upC hN hs hb hok) hp)
  | _ => exact .cell _ _ (upC hN hs hb hok (RA.not_agg h (by simp)) hp)
theorem upO (hN : Named ids os O) (hs : ∀ b o c, stab G w b o c → stab Gn w b o c) (hb : ∀ (k id g : Nat), ids[k]? = some (id, g) → Gn.blk id = G.blk k ∧ Gn.cap id = G.cap k ∧ Gn.isnil id = G.isnil k) (hok : ∀ o ∈ os, okO os.length o = true)
    {k id g : Nat} {o : Ob} (hk : os[k]? = some o) (hi : ids[k]? = some (id, g)) (hw' : ∀ l, G.own (G.blk k) = ⟨some k, l⟩ → Gn.own (G.blk k) = ⟨some id, l⟩) (h : RO G w (tbl os) k o) : RO Gn w O id (renO ids g o) := by
  obtain ⟨b1, b2, b3⟩ := hb k id g hi
  have ho := hok o (List.mem_of_getElem? hk)
  cases h with
  | box g0 cells cs T hbk hw hc =>
    simp only [okO, Bool.and_eq_true] at ho
    exact .box _ _ cs T (by rw [b1]; exact hbk) (by rw [b1]; exact hw' _ hw) (hc.map_up (q := okC os.length) (fun _ _ => upC hN hs hb hok) ho.2)
  | mp g0 d es clock hbk hw hm => exact .mp _ _ es clock (by rw [b1]; exact hbk) (by rw [b1]; exact hw' _ hw) hm
  | nil _ _ _ hn => exact .nil _ _ _ (by rw [b3]; exact hn)
  | arr _ _ _ _ cs T lim hn hbk hw h0 hl hc hz hss ht hh =>
    exact .arr _ _ _ _ cs T lim (by rw [b3]; exact hn) (by rw [b1]; exact hbk) (by rw [b1]; exact hw' _ hw) h0 hl (by rw [b2]; exact hc) (by rw [b2]; exact hz) hss ht (fun i x j p hi hj => let ⟨c, h1, h2⟩ := hh i x j p hi hj; ⟨c, h1, h2.mono hs⟩)
end
end Go.PV
