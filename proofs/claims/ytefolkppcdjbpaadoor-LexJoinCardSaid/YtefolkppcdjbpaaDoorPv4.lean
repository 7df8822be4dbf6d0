/- Part of the proof of LexJoin. -/
import Derived.Test.YtefolkppcdjbpaaDoorPv3
import Derived.Laws.Rows
import Derived.Laws.Cells
import Derived.Laws.Small
import Derived.WideLaws
import Derived.Laws.Strings2
namespace Go.PV
open Go Go.RowKit
section
variable {P : Program} {nt : Nat} {o : Oper}
theorem scal_rc {G : Gh} {w : World} {O : Tb} {p : V} {v u : Value} (h : RC G w O p v) (hs : scal p = some u) : v = u := by
  cases h with
  | sh _ _ h => cases h <;> first | (simp [scal] at hs; done) | (simp only [scal, Option.some.injEq] at hs; exact hs)
  | _ => simp [scal] at hs
theorem scals_spec : ∀ {l : List V} {xs : List Value}, scals l = some xs → xs.length = l.length ∧ ∀ (j : Nat) (p : V), l[j]? = some p → ∃ u, xs[j]? = some u ∧ scal p = some u
  | [], xs, h => by simp only [scals, Option.some.injEq] at h; subst h; exact ⟨rfl, fun j p hj => by simp at hj⟩
  | x :: l, xs, h => by
    simp only [scals] at h
    split at h
    · rename_i v vs hv hvs
      simp only [Option.some.injEq] at h
      subst h
      obtain ⟨h1, h2⟩ := scals_spec hvs
      refine ⟨by simp [h1], fun j p hj => ?_⟩
      cases j with
      | zero => simp only [List.getElem?_cons_zero, Option.some.injEq] at hj; subst hj; exact ⟨v, rfl, hv⟩
      | succ j => simpa using h2 j p (by simpa using hj)
    · cases h
theorem scals_cells {G : Gh} {w : World} {O : Tb} {l : List V} {xs : List Value} {cs : Array Value} (h : scals l = some xs) (hc : Cells (RC G w O) l cs) : cs = xs.toArray := by
  obtain ⟨h1, h2⟩ := scals_spec h
  apply Array.ext_getElem?
  intro j
  by_cases hj : j < l.length
  · obtain ⟨p, hp⟩ : ∃ p, l[j]? = some p := ⟨_, List.getElem?_eq_getElem hj⟩
    obtain ⟨c, hc1, hc2⟩ := hc.2 j p hp
    obtain ⟨u, hu1, hu2⟩ := h2 j p hp
    rw [hc1, scal_rc hc2 hu2]
    simp [hu1]
  · rw [Array.getElem?_eq_none (by rw [hc.1]; omega)]
    simp [List.getElem?_eq_none (show xs.length ≤ j by omega)]
theorem eqGuard_none {op : BinOp} {t : TypeId} {x y : Operand} {a b : Value} (w : World) (h1 : ∀ cs, a ≠ .agg cs) (h2 : a ≠ .nilIface ∨ b ≠ .nilIface) : (eqGuard op t x y a b).run P w = .ok () w := by
  cases a <;> first | exact absurd rfl (h1 _) | (cases op <;> rfl) | (cases b <;> first | (simp at h2; done) | (cases op <;> rfl))
theorem eq_nili {t : TypeId} {u : Array (String × TypeId)} (ht : P.underlying t = some (.interface u)) (w : World) : (Op.equal t .nilIface .nilIface).run P w = .ok true w := by
  show (Op.equalIn (Nat.succ 9999) t .nilIface .nilIface).run P w = _
  rw [Op.equalIn.eq_2, Sem.run_bind, run_underlying ht]
  rfl
theorem eq_ifc {t v : TypeId} {u : Array (String × TypeId)} {x : Value} (ht : P.underlying t = some (.interface u)) (w : World) : (Op.equal t (.iface v x) .nilIface).run P w = .ok false w := by
  show (Op.equalIn (Nat.succ 9999) t (.iface v x) .nilIface).run P w = _
  rw [Op.equalIn.eq_2, Sem.run_bind, run_underlying ht]
  rfl
theorem prBin_ok [Env P] {op : BinOp} {t u : TypeId} {x y : Operand} (ho : o.op = .binOp op t x y u) : OpS P nt o (prBin P nt o op t x y) := by
  refine .pure fun E G s a w K hR hm => ?_
  simp only [prBin, rdV_mwp] at hm
  have hx := ev_sound hR x
  have hy := ev_sound hR y
  have fin : ∀ {p : V} {v : Value} {xv yv : Value}, a.eval x = xv → a.eval y = yv → (setD nt o.dst p .done).mwp s K → (∀ w, (binOp op t xv yv).run P w = .ok v w) → (∀ σ, Sh σ p v) → (eqGuard op t x y xv yv).run P w = .ok () w →
      ∃ p v, (setD nt o.dst p .done).mwp s K ∧ (execOp a.eval o).run P w = .ok (.value v) w ∧ RV G w s.O p v := by
    intro p v xv yv e1 e2 h1 h2 h3 h4
    exact ⟨p, v, h1, by simp [execOp, ho, e1, e2, h4, h2], .of_sh (h3 _)⟩
  unfold binK at hm
  split at hm
  · rename_i i m j n e1 e2
    rw [e1] at hx; rw [e2] at hy
    split at hm
    · rename_i hij _; subst hij
      obtain ⟨p, v, h1, h2, h3⟩ := intK_ok (op := op) (t := t) hm
      exact fin hx.int_inv hy.int_inv h1 h2 h3 (eqGuard_none w (by simp) (by simp))
    · exact hm.elim
  · rename_i l m e1 e2
    rw [e1] at hx; rw [e2] at hy
    obtain ⟨p, v, h1, h2, h3⟩ := strK_ok (op := op) (t := t) hm
    exact fin hx.str_inv hy.str_inv h1 h2 h3 (eqGuard_none w (by simp) (by simp))
  · rename_i b c e1 e2
    rw [e1] at hx; rw [e2] at hy
    split at hm
    · rename_i ht
      split at hm
      · exact fin (v := .bool (b == c)) hx.bool_inv hy.bool_inv hm (fun w => by simp only [binOp, Sem.run_bind, run_equal_bool w t b c ht]; rfl) (fun _ => .bool _) (eqGuard_none w (by simp) (by simp))
      · exact fin (v := .bool (!(b == c))) hx.bool_inv hy.bool_inv hm (fun w => by simp only [binOp, Sem.run_bind, run_equal_bool w t b c ht]; rfl) (fun _ => .bool _) (eqGuard_none w (by simp) (by simp))
      · exact hm.elim
    · exact hm.elim
  · rename_i e1 e2
    rw [e1] at hx; rw [e2] at hy
    have key : (isConst x || isConst y) = true → (∃ u, P.underlying t = some (.interface u)) → ∀ w, (eqGuard op t x y .nilIface .nilIface).run P w = .ok () w := by
      intro hc _ w
      cases x <;> cases y <;> first | (simp [isConst] at hc; done) | (cases op <;> rfl)
    split at hm
    · rename_i hc ht
      exact fin (v := .bool true) hx.nili_inv hy.nili_inv hm (fun w => by simp only [binOp, Sem.run_bind, eq_nili ht]; rfl) (fun _ => .bool _) (key hc ⟨_, ht⟩ w)
    · rename_i hc ht
      exact fin (v := .bool false) hx.nili_inv hy.nili_inv hm (fun w => by simp only [binOp, Sem.run_bind, eq_nili ht]; rfl) (fun _ => .bool _) (key hc ⟨_, ht⟩ w)
    · exact hm.elim
  · rename_i e1 e2
    rw [e1] at hx; rw [e2] at hy
    obtain ⟨t1, x1, h5⟩ := hx.ifc_inv
    split at hm
    · rename_i ht
      exact fin (v := .bool false) h5 hy.nili_inv hm (fun w => by simp only [binOp, Sem.run_bind, eq_ifc ht]; rfl) (fun _ => .bool _) (eqGuard_none w (by simp) (by simp))
    · rename_i ht
      exact fin (v := .bool true) h5 hy.nili_inv hm (fun w => by simp only [binOp, Sem.run_bind, eq_ifc ht]; rfl) (fun _ => .bool _) (eqGuard_none w (by simp) (by simp))
    · exact hm.elim
  · rename_i l m e1 e2
    rw [e1] at hx; rw [e2] at hy
    obtain ⟨xs, h5, h6⟩ := hx.agg_inv
    obtain ⟨ys, h7, h8⟩ := hy.agg_inv
    obtain ⟨r, ⟨us, vs, h9, h10, h11⟩, hm⟩ := hm
    refine ⟨.bool r, .bool r, hm, ?_, .of_sh (.bool _)⟩
    have e := h11 w x y
    rw [← scals_cells h9 h6, ← scals_cells h10 h8] at e
    simp only [Sem.run_bind] at e
    simp only [execOp, ho, h5, h7, Sem.run_bind]
    cases hg : (eqGuard op t x y (.agg xs) (.agg ys)).run P w with
    | ok u w1 => rw [hg] at e; simp only [Result.andThen_ok] at e ⊢; rw [e]; rfl
    | halt => rw [hg] at e; simp at e
  · exact hm.elim
/-- one operand -/
def prNot (nt : Nat) (o : Oper) (op : UnOp) (x : Operand) : Pr := rdV x fun v => match op, v with
  | .not, .bool b => setD nt o.dst (.bool (!b)) .done
  | .neg, .int i n => setD nt o.dst (.int i (i.wrap (0 - n))) .done
  | _, _ => .fail
theorem prNot_ok [Env P] {op : UnOp} {t : TypeId} {x : Operand} (ho : o.op = .unOp op t x) : OpS P nt o (prNot nt o op x) := by
  refine .pure fun E G s a w K hR hm => ?_
  simp only [prNot, rdV_mwp] at hm
  have hx := ev_sound hR x
  split at hm
  · rename_i b e1; rw [e1] at hx
    exact ⟨_, .bool (!b), hm, by simp only [execOp, ho, hx.bool_inv]; rfl, .of_sh (.bool _)⟩
  · rename_i i n e1; rw [e1] at hx
    exact ⟨_, .int i (i.wrap (0 - n)), hm, by simp only [execOp, ho, hx.int_inv]; rfl, .of_sh (.int _ _)⟩
  · exact hm.elim
def optV : Option Operand → (Option Int → Pr) → Pr
  | none, k => k none
  | some x, k => rdV x fun v => match v with
    | .int _ n => k (some n)
    | _ => .fail
theorem optV_spec {E : Ent} {G : Gh} {s : St} {a : Act} {w : World} {K : St → Prop} (hR : RG E G s a w) {x : Option Operand} {k : Option Int → Pr} (h : (optV x k).mwp s K) :
    (x = none ∧ (k none).mwp s K) ∨ ∃ y i n, x = some y ∧ a.eval y = .int i n ∧ (k (some n)).mwp s K := by
  cases x with
  | none => exact .inl ⟨rfl, h⟩
  | some y =>
    simp only [optV, rdV_mwp] at h
    have hy := ev_sound hR y
    split at h
    · rename_i i n e; rw [e] at hy; exact .inr ⟨y, i, n, rfl, hy.int_inv, h⟩
    · exact h.elim
theorem run_sliceBound {i : IntKind} {n : Int} {m : Nat} {c : BoundsCode} (w : World) (h0 : 0 ≤ n) (h1 : n ≤ m) : (Instr.sliceBound (.int i n) m c).run P w = .ok n.toNat w := by
  simp [Instr.sliceBound, asIntOf, h0, h1]
/-- the bounds of a slice of so many -/
def cutOk (len : Nat) : Option Int → Option Int → Prop
  | none, none => True
  | some a, none => 0 ≤ a ∧ a ≤ len
  | none, some b => 0 ≤ b ∧ b ≤ len
  | some a, some b => 0 ≤ a ∧ a ≤ b ∧ b ≤ len
def cutL {α : Type} (l : List α) : Option Int → Option Int → List α
  | none, none => l
  | some a, none => l.drop a.toNat
  | none, some b => l.take b.toNat
  | some a, some b => (l.take b.toNat).drop a.toNat
def loOf : Option Int → Nat
  | none => 0
  | some a => a.toNat
def hiOf (len : Nat) : Option Int → Nat
  | none => len
  | some b => b.toNat
theorem cutOk.le {len : Nat} {a b : Option Int} (h : cutOk len a b) : loOf a ≤ hiOf len b ∧ hiOf len b ≤ len := by
  cases a <;> cases b <;> simp only [cutOk, loOf, hiOf] at h ⊢ <;> omega
theorem cutL_eq {α : Type} (l : List α) (a b : Option Int) : cutL l a b = (l.take (hiOf l.length b)).drop (loOf a) := by
  cases a <;> cases b <;> simp [cutL, loOf, hiOf]
/-- bounds as values -/
def Bnd (ρ : Operand → Value) : Option Operand → Option Int → Prop
  | none, none => True
  | some x, some n => ∃ i, ρ x = .int i n
  | _, _ => False
theorem run_sliceBounds {ρ : Operand → Value} {lo hi : Option Operand} {a b : Option Int} {sl : Bool} {len cap : Nat} (w : World) (ha : Bnd ρ lo a) (hb : Bnd ρ hi b) (hc : cutOk len a b) (hle : len ≤ cap) :
    (Instr.sliceBounds sl len cap (lo.map ρ) (hi.map ρ) none).run P w = .ok (loOf a, hiOf len b, cap) w := by
  have h2 := hc.le
  unfold Instr.sliceBounds
  cases lo <;> cases a <;> simp only [Bnd] at ha <;> cases hi <;> cases b <;> simp only [Bnd] at hb <;> simp only [cutOk] at hc
  · simp [loOf, hiOf]
  · obtain ⟨i, hb⟩ := hb
    simp [loOf, hiOf, hb, run_sliceBound (P := P) (i := i) w hc.1 (show _ ≤ (cap : Int) by omega)]
  · obtain ⟨i, ha⟩ := ha
    simp [loOf, hiOf, ha, run_sliceBound (P := P) (i := i) w hc.1 hc.2]
  · obtain ⟨i, ha⟩ := ha
    obtain ⟨j, hb⟩ := hb
    rename_i x m y n
    have h1 : (m : Int) ≤ ((n.toNat : Nat) : Int) := by omega
    simp [loOf, hiOf, ha, hb, run_sliceBound (P := P) (i := j) w (show 0 ≤ n by omega) (show n ≤ (cap : Int) by omega), run_sliceBound (P := P) (i := i) w hc.1 h1]
end
end Go.PV
