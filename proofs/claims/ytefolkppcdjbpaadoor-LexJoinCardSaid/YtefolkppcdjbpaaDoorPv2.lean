/- Part of the proof of LexJoin. -/
import Derived.Test.YtefolkppcdjbpaaDoorPv1
namespace Go.PV
open Go Go.RowKit
inductive Loc where
  | slot (t : Nat)
  | ob (id : Nat)
  deriving DecidableEq
/-- what an operation does, told: reads and writes of slots and objects -/
inductive Pr : Type 1 where
  | done
  | fail
  | get (t : Nat) (k : V → Pr)
  | put (t : Nat) (v : V) (k : Pr)
  | getO (id : Nat) (k : Option Ob → Pr)
  | putO (id : Nat) (o : Ob) (k : Pr)
  | brs (t : Nat) (p q : Pr)
  | ex (β : Type) (φ : β → Prop) (k : β → Pr)
/-- a value, forced -/
def forceV (v : V) (k : V → Pr) : Pr := match v with
  | .dead => k .dead
  | .int i n => k (.int i n)
  | .bool b => k (.bool b)
  | .str l => k (.str l)
  | .nil => k .nil
  | .nilp => k .nilp
  | .nili => k .nili
  | .ifc => k .ifc
  | .fn f c => k (.fn f c)
  | .agg l => k (.agg l)
  | .tup l => k (.tup l)
  | .sl n xs => k (.sl n xs)
  | .own id g => k (.own id g)
  | .ptr id g off => k (.ptr id g off)
  | .elp id g i off => k (.elp id g i off)
  | .rp l => k (.rp l)
theorem forceV_eq (v : V) (k : V → Pr) : forceV v k = k v := by cases v <;> rfl
def St.putP (s : St) (t : Nat) (v : PV.V) (k : St → Prop) : Prop := match s with
  | ⟨tm, ob⟩ => k ⟨(t, v) :: tm, ob⟩
def St.putOP (s : St) (t : Nat) (o : Ob) (k : St → Prop) : Prop := match s with
  | ⟨tm, ob⟩ => k ⟨tm, (t, o) :: ob⟩
theorem St.putP_eq (s : St) (t : Nat) (v : PV.V) (k : St → Prop) : s.putP t v k = k (s.put t v) := by cases s; rfl
theorem St.putOP_eq (s : St) (t : Nat) (o : Ob) (k : St → Prop) : s.putOP t o k = k (s.putO t o) := by cases s; rfl
def branch (b : Bool) (p q : Prop) : Prop := match b with | true => p | false => q
/-- the same, for statements -/
def forceW (v : V) (k : V → Prop) : Prop := match v with
  | .dead => k .dead
  | .int i n => k (.int i n)
  | .bool b => k (.bool b)
  | .str l => k (.str l)
  | .nil => k .nil
  | .nilp => k .nilp
  | .nili => k .nili
  | .ifc => k .ifc
  | .fn f c => k (.fn f c)
  | .agg l => k (.agg l)
  | .tup l => k (.tup l)
  | .sl n xs => k (.sl n xs)
  | .own id g => k (.own id g)
  | .ptr id g off => k (.ptr id g off)
  | .elp id g i off => k (.elp id g i off)
  | .rp l => k (.rp l)
theorem forceW_eq (v : V) (k : V → Prop) : forceW v k = k v := by cases v <;> rfl
/-- with logs: for the walk -/
def Pr.wp : Pr → St → List Loc → List Loc → (St → List Loc → List Loc → Prop) → Prop
  | .done, s, A, B, K => K s A B
  | .fail, _, _, _, _ => False
  | .get t k, s, A, B, K => forceW (s.V t) fun v => (k v).wp s (.slot t :: A) B K
  | .put t v k, s, A, B, K => s.putP t v fun s' => k.wp s' A (.slot t :: B) K
  | .getO id k, s, A, B, K => (k (s.O id)).wp s (.ob id :: A) B K
  | .putO id o k, s, A, B, K => s.putOP id o fun s' => k.wp s' A (.ob id :: B) K
  | .brs t p q, s, A, B, K => match s.V t with
    | .bool b => branch b (s.putP t (.bool true) fun s' => p.wp s' (.slot t :: A) B K) (s.putP t (.bool false) fun s' => q.wp s' (.slot t :: A) B K)
    | _ => False
  | .ex β φ k, s, A, B, K => ∃ b : β, φ b ∧ (k b).wp s A B K
inductive Pr.Runs : Pr → St → St → List Loc → List Loc → Prop
  | done (s) : Runs .done s s [] []
  | get {t k s s' A B} (h : Runs (k (s.V t)) s s' A B) : Runs (.get t k) s s' (.slot t :: A) B
  | put {t v k s s' A B} (h : Runs k (s.put t v) s' A B) : Runs (.put t v k) s s' A (.slot t :: B)
  | getO {id k s s' A B} (h : Runs (k (s.O id)) s s' A B) : Runs (.getO id k) s s' (.ob id :: A) B
  | putO {id o k s s' A B} (h : Runs k (s.putO id o) s' A B) : Runs (.putO id o k) s s' A (.ob id :: B)
  | brT {t p q s s' A B} (e : s.V t = .bool true) (h : Runs p s s' A B) : Runs (.brs t p q) s s' (.slot t :: A) B
  | brF {t p q s s' A B} (e : s.V t = .bool false) (h : Runs q s s' A B) : Runs (.brs t p q) s s' (.slot t :: A) B
  | ex {β φ k s s' A B} (b : β) (hb : φ b) (h : Runs (k b) s s' A B) : Runs (.ex β φ k) s s' A B
def St.Eqv (s u : St) : Prop := (∀ t, s.V t = u.V t) ∧ ∀ id, s.O id = u.O id
theorem St.Eqv.refl (s : St) : s.Eqv s := ⟨fun _ => rfl, fun _ => rfl⟩
theorem St.Eqv.symm {s u : St} (h : s.Eqv u) : u.Eqv s := ⟨fun t => (h.1 t).symm, fun t => (h.2 t).symm⟩
theorem St.Eqv.trans {s u v : St} (h : s.Eqv u) (k : u.Eqv v) : s.Eqv v := ⟨fun t => (h.1 t).trans (k.1 t), fun t => (h.2 t).trans (k.2 t)⟩
theorem St.Eqv.put {s u : St} (h : s.Eqv u) (t : Nat) (v : PV.V) : (s.put t v).Eqv (u.put t v) := ⟨fun x => by simp only [St.V_put, h.1], h.2⟩
theorem St.Eqv.putO {s u : St} (h : s.Eqv u) (t : Nat) (o : Ob) : (s.putO t o).Eqv (u.putO t o) := ⟨h.1, fun x => by simp only [St.O_putO, h.2]⟩
theorem RG.eqv {E : Ent} {G : Gh} {s u : St} {a : Act} {w : World} (h : RG E G s a w) (e : s.Eqv u) : RG E G u a w := by
  have hO : s.O = u.O := funext e.2
  exact ⟨h.nt, h.df, fun t => by rw [← e.1, ← hO]; exact h.tm t, fun id o ho => by rw [← hO]; exact h.ob id o (by rw [e.2]; exact ho), h.fr, fun id b hb => by rw [← hO]; exact h.bxs id b hb⟩
theorem Pr.Runs.eqv {p : Pr} {s s' : St} {A B : List Loc} (h : Runs p s s' A B) : ∀ {u : St}, s.Eqv u → ∃ u', Runs p u u' A B ∧ s'.Eqv u' := by
  induction h with
  | done s => exact fun {u} e => ⟨u, .done u, e⟩
  | get h ih => intro u e; obtain ⟨u', h1, h2⟩ := ih e; exact ⟨u', .get (by rw [← e.1]; exact h1), h2⟩
  | put h ih => intro u e; obtain ⟨u', h1, h2⟩ := ih (St.Eqv.put e _ _); exact ⟨u', .put h1, h2⟩
  | getO h ih => intro u e; obtain ⟨u', h1, h2⟩ := ih e; exact ⟨u', .getO (by rw [← e.2]; exact h1), h2⟩
  | putO h ih => intro u e; obtain ⟨u', h1, h2⟩ := ih (St.Eqv.putO e _ _); exact ⟨u', .putO h1, h2⟩
  | brT e' h ih => intro u e; obtain ⟨u', h1, h2⟩ := ih e; exact ⟨u', .brT (by rw [← e.1]; exact e') h1, h2⟩
  | brF e' h ih => intro u e; obtain ⟨u', h1, h2⟩ := ih e; exact ⟨u', .brF (by rw [← e.1]; exact e') h1, h2⟩
  | ex b hb h ih => intro u e; obtain ⟨u', h1, h2⟩ := ih e; exact ⟨u', .ex b hb h1, h2⟩
theorem Pr.wp_runs {p : Pr} : ∀ {s : St} {A B : List Loc} {K : St → List Loc → List Loc → Prop}, p.wp s A B K → ∃ s' s'' A' B', Runs p s s' A' B' ∧ s'.Eqv s'' ∧ K s'' (A'.reverse ++ A) (B'.reverse ++ B) := by
  induction p with
  | done => intro s A B K h; exact ⟨s, s, [], [], .done s, .refl s, h⟩
  | fail => intro s A B K h; exact h.elim
  | get t k ih => intro s A B K h; simp only [Pr.wp, forceW_eq] at h; obtain ⟨s', s'', A', B', h1, h2, h3⟩ := ih _ h; exact ⟨s', s'', _, _, .get h1, h2, by simpa using h3⟩
  | put t v k ih => intro s A B K h; simp only [Pr.wp, St.putP_eq] at h; obtain ⟨s', s'', A', B', h1, h2, h3⟩ := ih h; exact ⟨s', s'', _, _, .put h1, h2, by simpa using h3⟩
  | getO t k ih => intro s A B K h; obtain ⟨s', s'', A', B', h1, h2, h3⟩ := ih _ h; exact ⟨s', s'', _, _, .getO h1, h2, by simpa using h3⟩
  | putO t v k ih => intro s A B K h; simp only [Pr.wp, St.putOP_eq] at h; obtain ⟨s', s'', A', B', h1, h2, h3⟩ := ih h; exact ⟨s', s'', _, _, .putO h1, h2, by simpa using h3⟩
  | brs t p q ihp ihq =>
    intro s A B K h
    simp only [Pr.wp] at h
    split at h
    · rename_i b hb
      have he : ∀ c, b = c → s.Eqv (s.put t (.bool c)) := fun c hc => ⟨fun u => by rw [St.V_put]; split <;> simp_all, fun _ => rfl⟩
      simp only [St.putP_eq] at h
      cases b with
      | true =>
        obtain ⟨s', s'', A', B', h1, h2, h3⟩ := ihp h
        obtain ⟨u', h4, h5⟩ := h1.eqv (he _ rfl).symm
        exact ⟨u', s'', _, _, .brT hb h4, h5.symm.trans h2, by simpa using h3⟩
      | false =>
        obtain ⟨s', s'', A', B', h1, h2, h3⟩ := ihq h
        obtain ⟨u', h4, h5⟩ := h1.eqv (he _ rfl).symm
        exact ⟨u', s'', _, _, .brF hb h4, h5.symm.trans h2, by simpa using h3⟩
    · exact h.elim
  | ex β φ k ih => intro s A B K h; obtain ⟨b, hb, h⟩ := h; obtain ⟨s', s'', A', B', h1, h2, h3⟩ := ih b h; exact ⟨s', s'', A', B', .ex b hb h1, h2, h3⟩
/-- without logs: for the soundness -/
def Pr.mwp : Pr → St → (St → Prop) → Prop
  | .done, s, K => K s
  | .fail, _, _ => False
  | .get t k, s, K => (k (s.V t)).mwp s K
  | .put t v k, s, K => k.mwp (s.put t v) K
  | .getO id k, s, K => (k (s.O id)).mwp s K
  | .putO id o k, s, K => k.mwp (s.putO id o) K
  | .brs t p q, s, K => (s.V t = .bool true ∧ p.mwp s K) ∨ (s.V t = .bool false ∧ q.mwp s K)
  | .ex β φ k, s, K => ∃ b : β, φ b ∧ (k b).mwp s K
theorem Pr.Runs.mwp {p : Pr} {s s' : St} {A B : List Loc} (h : Runs p s s' A B) : p.mwp s (· = s') := by
  induction h with
  | done s => rfl
  | get h ih => exact ih
  | put h ih => exact ih
  | getO h ih => exact ih
  | putO h ih => exact ih
  | brT e h ih => exact .inl ⟨e, ih⟩
  | brF e h ih => exact .inr ⟨e, ih⟩
  | ex b hb h ih => exact ⟨b, hb, ih⟩
/-- forced lists -/
def force {α : Type} : List α → (List α → Pr) → Pr
  | [], k => k []
  | x :: xs, k => force xs fun ys => k (x :: ys)
theorem force_eq {α : Type} (l : List α) (k : List α → Pr) : force l k = k l := by
  induction l generalizing k with
  | nil => rfl
  | cons x xs ih => simp only [force, ih]
def ofC : Value → V
  | .int k n => .int k n
  | .bool b => .bool b
  | .string s => .str s.data.toList
  | .slice none 0 0 => .nil
  | .pointer none => .nilp
  | .nilIface => .nili
  | _ => .dead
def ofCK (v : Value) (k : V → Pr) : Pr := match v with
  | .int i n => k (.int i n)
  | .bool b => k (.bool b)
  | .string s => k (.str s.data.toList)
  | .slice none 0 0 => k .nil
  | .pointer none => k .nilp
  | .nilIface => k .nili
  | _ => k .dead
theorem ofCK_eq (v : Value) (k : V → Pr) : ofCK v k = k (ofC v) := by unfold ofCK ofC; split <;> rfl
def ofCsK : List Value → (List V → Pr) → Pr
  | [], k => k []
  | x :: xs, k => ofCK x fun y => ofCsK xs fun ys => k (y :: ys)
theorem ofCsK_eq (l : List Value) (k : List V → Pr) : ofCsK l k = k (l.map ofC) := by
  induction l generalizing k with
  | nil => rfl
  | cons x xs ih => simp only [ofCsK, ofCK_eq, ih, List.map_cons]
def rdV (x : Operand) (k : V → Pr) : Pr := match x with
  | .tmp t => .get t k
  | .const c => ofCK c k
  | .func f => k (.fn f [])
  | .global _ => k .dead
def rdVs : List Operand → (List V → Pr) → Pr
  | [], k => k []
  | x :: xs, k => rdV x fun v => rdVs xs fun vs => k (v :: vs)
def setD (nt : Nat) (d : Option Nat) (v : V) (k : Pr) : Pr := match d with
  | none => k
  | some t => match Nat.blt t nt with | true => .put t v k | false => .fail
def St.ev (s : St) : Operand → PV.V
  | .tmp t => s.V t
  | .const c => ofC c
  | .func f => .fn f []
  | .global _ => .dead
theorem rdV_mwp (x : Operand) (k : V → Pr) (s : St) (K : St → Prop) : (rdV x k).mwp s K = (k (s.ev x)).mwp s K := by
  cases x <;> simp only [rdV, St.ev, Pr.mwp, ofCK_eq]
theorem rdVs_mwp (xs : List Operand) (k : List V → Pr) (s : St) (K : St → Prop) : (rdVs xs k).mwp s K = (k (xs.map s.ev)).mwp s K := by
  induction xs generalizing k with
  | nil => rfl
  | cons x xs ih => simp only [rdVs, rdV_mwp, ih, List.map_cons]
theorem ofC_sound {G : Gh} {w : World} {O : Tb} (v : Value) (h1 : v.oneCell' = true) : RC G w O (ofC v) v := by
  unfold ofC
  split
  · exact .sh _ _ (.int _ _)
  · exact .sh _ _ (.bool _)
  · rename_i s; have h := Sh.str (σ := stab G w) s.data.toList; exact .sh _ _ (by simpa using h)
  · exact .sh _ _ .nil
  · exact .sh _ _ .nilp
  · exact .sh _ _ .nili
  · exact .dead _ h1
theorem ev_sound {E : Ent} {G : Gh} {s : St} {a : Act} {w : World} (h : RG E G s a w) (x : Operand) : RV G w s.O (s.ev x) (a.eval x) := by
  cases x with
  | tmp t => exact h.tm t
  | const c =>
    by_cases h1 : c.oneCell' = true
    · exact .any _ _ (.cell _ _ (ofC_sound c h1))
    · cases c <;> first | (exact absurd rfl h1) | exact .dead _
  | func f => exact .of_sh (.fn f)
  | global g => exact .dead _
end Go.PV
