/- Part of the proof of LexJoin. -/
import Derived.Test.YtefolkppcdjbpaaDoorPv2
import Derived.Laws.StructEq
import Derived.Laws.Strings
namespace Go.PV
open Go Go.RowKit
theorem opwp_value {P : Program} {o : Oper} {a : Act} {w w' : World} {v : Value} {next : Act → World → Prop} {Q : Exit → Act → World → Prop} (hr : (execOp a.eval o).run P w = .ok (.value v) w') (h : next (a.put o.dst v) w') : o.wp P a w next Q := by
  unfold Oper.wp; rw [hr]; exact h
theorem opwp_skip {P : Program} {o : Oper} {a : Act} {w w' : World} {next : Act → World → Prop} {Q : Exit → Act → World → Prop} (hr : (execOp a.eval o).run P w = .ok .skip w') (h : next (a.put o.dst undef) w') : o.wp P a w next Q := by
  unfold Oper.wp; rw [hr]; exact h
/-- a told operation is sound -/
def OpS (P : Program) [Env P] (nt : Nat) (o : Oper) (pr : Pr) : Prop :=
  ∀ (E : Ent) (G : Gh) (s : St) (a : Act) (w : World) (K : St → Prop) (next : Act → World → Prop) (Q : Exit → Act → World → Prop), E.ok P nt → RG E G s a w → pr.mwp s K →
    (∀ s' a' w', K s' → R E s' a' w' → next a' w') → o.wp P a w next Q
theorem setD_put {P : Program} [Env P] {E : Ent} {G : Gh} {s : St} {a : Act} {w : World} {K : St → Prop} {d : Option Nat} {p : V} {v : Value} {nt : Nat} (hnt : E.ok P nt) (h : RG E G s a w) (hv : RV G w s.O p v) (hm : (setD nt d p .done).mwp s K) : ∃ s', K s' ∧ RG E G s' (a.put d v) w := by
  cases d with
  | none => exact ⟨s, hm, h⟩
  | some t =>
    unfold setD at hm
    cases hb : Nat.blt t nt with
    | false => simp only [hb] at hm; exact hm.elim
    | true =>
      simp only [hb] at hm
      exact ⟨_, hm, h.put (hnt.1 ▸ by simpa using hb) hv⟩
/-- an operation that only computes -/
theorem OpS.pure {P : Program} [Env P] {nt : Nat} {o : Oper} {pr : Pr}
    (h : ∀ (E : Ent) (G : Gh) (s : St) (a : Act) (w : World) (K : St → Prop), RG E G s a w → pr.mwp s K → ∃ p v, (setD nt o.dst p .done).mwp s K ∧ (execOp a.eval o).run P w = .ok (.value v) w ∧ RV G w s.O p v) : OpS P nt o pr := by
  intro E G s a w K next Q hnt hR hm hn
  obtain ⟨p, v, h1, h2, h3⟩ := h E G s a w K hR hm
  obtain ⟨s', hk, hR'⟩ := setD_put hnt hR h3 h1
  exact opwp_value h2 (hn _ _ _ hk ⟨G, hR'⟩)
def prMove (nt : Nat) (o : Oper) (x : Operand) : Pr := rdV x fun v => setD nt o.dst v .done
theorem prMove_ok {P : Program} [Env P] {nt : Nat} {o : Oper} {x : Operand} (ho : o.op = .move x ∨ o.op = .assign x) : OpS P nt o (prMove nt o x) :=
  .pure fun E G s a w K hR hm => ⟨s.ev x, a.eval x, by simpa only [prMove, rdV_mwp] using hm, by rcases ho with ho | ho <;> simp [execOp, ho], ev_sound hR x⟩
def prPick (nt : Nat) (o : Oper) (c x y : Operand) : Pr := match c with
  | .tmp t => .brs t (prMove nt o x) (prMove nt o y)
  | .const (.bool true) => prMove nt o x
  | .const (.bool false) => prMove nt o y
  | _ => .fail
theorem RV.bool_inv {G : Gh} {w : World} {O : Tb} {b : Bool} {v : Value} (h : RV G w O (.bool b) v) : v = .bool b := by
  cases h with | any _ _ h => cases h with | cell _ _ h => cases h with | sh _ _ h => cases h; rfl
theorem RV.int_inv {G : Gh} {w : World} {O : Tb} {k : IntKind} {n : Int} {v : Value} (h : RV G w O (.int k n) v) : v = .int k n := by
  cases h with | any _ _ h => cases h with | cell _ _ h => cases h with | sh _ _ h => cases h; rfl
theorem RV.str_inv {G : Gh} {w : World} {O : Tb} {l : List UInt8} {v : Value} (h : RV G w O (.str l) v) : v = .string ⟨l.toArray⟩ := by
  cases h with | any _ _ h => cases h with | cell _ _ h => cases h with | sh _ _ h => cases h; rfl
theorem RV.nil_inv {G : Gh} {w : World} {O : Tb} {v : Value} (h : RV G w O .nil v) : v = .slice none 0 0 := by
  cases h with | any _ _ h => cases h with | cell _ _ h => cases h with | sh _ _ h => cases h; rfl
theorem RV.nili_inv {G : Gh} {w : World} {O : Tb} {v : Value} (h : RV G w O .nili v) : v = .nilIface := by
  cases h with | any _ _ h => cases h with | cell _ _ h => cases h with | sh _ _ h => cases h; rfl
theorem RV.ifc_inv {G : Gh} {w : World} {O : Tb} {v : Value} (h : RV G w O .ifc v) : ∃ t x, v = .iface t x := by
  cases h with | any _ _ h => cases h with | cell _ _ h => cases h with | sh _ _ h => cases h; exact ⟨_, _, rfl⟩
theorem RV.sl_inv {G : Gh} {w : World} {O : Tb} {n : Nat} {xs : List (List V)} {v : Value} (h : RV G w O (.sl n xs) v) : Sh (stab G w) (.sl n xs) v := by
  cases h with | any _ _ h => cases h with | cell _ _ h => cases h with | sh _ _ h => exact h
theorem RV.agg_inv {G : Gh} {w : World} {O : Tb} {l : List V} {v : Value} (h : RV G w O (.agg l) v) : ∃ cs, v = .agg cs ∧ Cells (RC G w O) l cs := by
  cases h with
  | any _ _ h => cases h with
    | cell _ _ h => cases h with
      | sh _ _ h => cases h
    | agg l cs h => exact ⟨cs, rfl, h⟩
theorem RV.tup_inv {G : Gh} {w : World} {O : Tb} {l : List V} {v : Value} (h : RV G w O (.tup l) v) : ∃ cs, v = .tuple cs ∧ Cells (RA G w O) l cs := by
  cases h with
  | any _ _ h => cases h with
    | cell _ _ h => cases h with
      | sh _ _ h => cases h
  | tup l cs h => exact ⟨cs, rfl, h⟩
theorem prPick_ok {P : Program} [Env P] {nt : Nat} {o : Oper} {c x y : Operand} (ho : o.op = .pick c x y) : OpS P nt o (prPick nt o c x y) := by
  refine .pure fun E G s a w K hR hm => ?_
  have go : ∀ b z, a.eval c = .bool b → (if b then x else y) = z → (prMove nt o z).mwp s K → ∃ p v, (setD nt o.dst p .done).mwp s K ∧ (execOp a.eval o).run P w = .ok (.value v) w ∧ RV G w s.O p v := by
    intro b z hb hz hm
    refine ⟨s.ev z, a.eval z, by simpa only [prMove, rdV_mwp] using hm, ?_, ev_sound hR z⟩
    cases b <;> simp [execOp, ho, hb, asBool] <;> simp at hz <;> rw [hz]
  unfold prPick at hm
  split at hm
  · rename_i t
    simp only [Pr.mwp] at hm
    rcases hm with ⟨e, hm⟩ | ⟨e, hm⟩
    · exact go true x ((e ▸ hR.tm t : RV G w s.O (.bool true) _).bool_inv) rfl hm
    · exact go false y ((e ▸ hR.tm t : RV G w s.O (.bool false) _).bool_inv) rfl hm
  · exact go true x rfl rfl hm
  · exact go false y rfl rfl hm
  · exact hm.elim
/-- arithmetic -/
def intK (op : BinOp) (i : IntKind) (m n : Int) (k : V → Pr) : Pr := match op with
  | .add => k (.int i (i.wrap (m + n)))
  | .sub => k (.int i (i.wrap (m - n)))
  | .mul => k (.int i (i.wrap (m * n)))
  | .quo => .ex PUnit (fun _ => n ≠ 0) fun _ => k (.int i (i.wrap (m.tdiv n)))
  | .rem => .ex PUnit (fun _ => n ≠ 0) fun _ => k (.int i (m.tmod n))
  | .eql => k (.bool (decide (m = n)))
  | .neq => k (.bool (!decide (m = n)))
  | .lss => k (.bool (decide (m < n)))
  | .leq => k (.bool (decide (m ≤ n)))
  | .gtr => k (.bool (decide (n < m)))
  | .geq => k (.bool (decide (n ≤ m)))
  | _ => .fail
def strK (op : BinOp) (l m : List UInt8) (k : V → Pr) : Pr := match op with
  | .add => .ex PUnit (fun _ => l.length + m.length ≤ 9223372036854775807) fun _ => k (.str (l ++ m))
  | .eql => k (.bool (decide (l = m)))
  | .neq => k (.bool (!decide (l = m)))
  | .lss => k (.bool (Op.bytesLess l m))
  | .leq => k (.bool (Op.bytesLess l m || decide (l = m)))
  | .gtr => k (.bool (!(Op.bytesLess l m || decide (l = m))))
  | .geq => k (.bool (!Op.bytesLess l m))
  | _ => .fail
def scal : V → Option Value
  | .int k n => some (.int k n)
  | .bool b => some (.bool b)
  | .str l => some (.string ⟨l.toArray⟩)
  | _ => none
def scals : List V → Option (List Value)
  | [] => some []
  | x :: xs => match scal x, scals xs with
    | some v, some vs => some (v :: vs)
    | _, _ => none
/-- two structs of plain cells are the same, or not (told type by type) -/
def EqV (P : Program) (op : BinOp) (t : TypeId) (l m : List V) (r : Bool) : Prop :=
  ∃ xs ys, scals l = some xs ∧ scals m = some ys ∧ ∀ w x y, (do eqGuard op t x y (.agg xs.toArray) (.agg ys.toArray); binOp op t (.agg xs.toArray) (.agg ys.toArray) : Sem Value).run P w = .ok (.bool r) w
def isConst : Operand → Bool
  | .const _ => true
  | _ => false
def binK (P : Program) (op : BinOp) (t : TypeId) (c : Bool) (x y : V) (k : V → Pr) : Pr := match x, y with
  | .int i m, .int j n => match decEq i j with
    | .isTrue _ => intK op i m n k
    | .isFalse _ => .fail
  | .str l, .str m => strK op l m k
  | .bool a, .bool b => match P.underlying t with
    | some .bool => match op with
      | .eql => k (.bool (a == b))
      | .neq => k (.bool (!(a == b)))
      | _ => .fail
    | _ => .fail
  | .nili, .nili => match c, P.underlying t, op with
    | true, some (.interface _), .eql => k (.bool true)
    | true, some (.interface _), .neq => k (.bool false)
    | _, _, _ => .fail
  | .ifc, .nili => match P.underlying t, op with
    | some (.interface _), .eql => k (.bool false)
    | some (.interface _), .neq => k (.bool true)
    | _, _ => .fail
  | .agg l, .agg m => .ex Bool (fun r => EqV P op t l m r) fun r => k (.bool r)
  | _, _ => .fail
def prBin (P : Program) (nt : Nat) (o : Oper) (op : BinOp) (t : TypeId) (x y : Operand) : Pr :=
  rdV x fun u => rdV y fun v => binK P op t (isConst x || isConst y) u v fun r => setD nt o.dst r .done
section
variable {P : Program} {op : BinOp} {t : TypeId} {k : V → Pr} {s : St} {K : St → Prop}
theorem intK_ok {i : IntKind} {m n : Int} (h : (intK op i m n k).mwp s K) : ∃ p v, (k p).mwp s K ∧ (∀ w, (binOp op t (.int i m) (.int i n)).run P w = .ok v w) ∧ ∀ σ, Sh σ p v := by
  cases op <;> simp only [intK] at h
  case add => exact ⟨_, .int i (i.wrap (m + n)), h, fun w => by simp [binOp, Op.intArith], fun σ => .int _ _⟩
  case sub => exact ⟨_, .int i (i.wrap (m - n)), h, fun w => by simp [binOp, Op.intArith], fun σ => .int _ _⟩
  case mul => exact ⟨_, .int i (i.wrap (m * n)), h, fun w => by simp [binOp, Op.intArith], fun σ => .int _ _⟩
  case quo => obtain ⟨_, hn, h⟩ := h; exact ⟨_, _, h, fun w => by simp only [binOp, Op.intDiv, hn, ne_eq, not_true, if_false]; rfl, fun σ => .int _ _⟩
  case rem => obtain ⟨_, hn, h⟩ := h; exact ⟨_, _, h, fun w => by simp only [binOp, Op.intDiv, hn, ne_eq, not_true, if_false]; rfl, fun σ => .int _ _⟩
  case eql => exact ⟨_, .bool (decide (m = n)), h, fun w => by simp only [binOp, Op.intCmp, ne_eq, not_true, if_false]; rfl, fun σ => .bool _⟩
  case neq => exact ⟨_, .bool (!decide (m = n)), h, fun w => by simp only [binOp, Op.intCmp, ne_eq, not_true, if_false]; rfl, fun σ => .bool _⟩
  case lss => exact ⟨_, .bool (decide (m < n)), h, fun w => by simp only [binOp, Op.intCmp, ne_eq, not_true, if_false]; rfl, fun σ => .bool _⟩
  case leq => exact ⟨_, .bool (decide (m ≤ n)), h, fun w => by simp only [binOp, Op.intCmp, ne_eq, not_true, if_false]; rfl, fun σ => .bool _⟩
  case gtr => exact ⟨_, .bool (decide (n < m)), h, fun w => by simp only [binOp, Op.intCmp, ne_eq, not_true, if_false]; rfl, fun σ => .bool _⟩
  case geq => exact ⟨_, .bool (decide (n ≤ m)), h, fun w => by simp only [binOp, Op.intCmp, ne_eq, not_true, if_false]; rfl, fun σ => .bool _⟩
  all_goals exact h.elim
theorem tl_str (l : List UInt8) : (⟨l.toArray⟩ : ByteArray).toList = l := by rw [ByteArray.toList_eq]
theorem dec_beq (l m : List UInt8) : decide (l = m) = (l == m) := by rw [Bool.eq_iff_iff]; simp
theorem strK_ok {l m : List UInt8} (h : (strK op l m k).mwp s K) : ∃ p v, (k p).mwp s K ∧ (∀ w, (binOp op t (.string ⟨l.toArray⟩) (.string ⟨m.toArray⟩)).run P w = .ok v w) ∧ ∀ σ, Sh σ p v := by
  cases op <;> simp only [strK] at h
  case add =>
    obtain ⟨_, hn, h⟩ := h
    refine ⟨_, .string (⟨l.toArray⟩ ++ ⟨m.toArray⟩), h, fun w => ?_, fun σ => ?_⟩
    · have h1 : ((⟨l.toArray⟩ : ByteArray).size + (⟨m.toArray⟩ : ByteArray).size) ≤ 9223372036854775807 := by simpa [ByteArray.size] using hn
      have h2 : ¬ ((((⟨l.toArray⟩ : ByteArray).size + (⟨m.toArray⟩ : ByteArray).size : Nat) : Int) > IntKind.i64.max) := by
        have : IntKind.i64.max = 9223372036854775807 := by decide
        rw [this]; omega
      simp only [binOp, Op.stringOp]
      rw [if_neg h2]
      rfl
    · have e : (⟨l.toArray⟩ ++ ⟨m.toArray⟩ : ByteArray) = ⟨(l ++ m).toArray⟩ := by
        apply ByteArray.ext; simp
      rw [e]; exact .str _
  case eql => exact ⟨_, _, h, fun w => by simp only [binOp, Op.stringOp, tl_str]; rfl, fun σ => by rw [dec_beq]; exact .bool _⟩
  case neq => exact ⟨_, _, h, fun w => by simp only [binOp, Op.stringOp, tl_str]; rfl, fun σ => by rw [dec_beq]; exact .bool _⟩
  case lss => exact ⟨_, _, h, fun w => by simp only [binOp, Op.stringOp, tl_str]; rfl, fun σ => .bool _⟩
  case leq => exact ⟨_, _, h, fun w => by simp only [binOp, Op.stringOp, tl_str]; rfl, fun σ => by rw [dec_beq]; exact .bool _⟩
  case gtr => exact ⟨_, _, h, fun w => by simp only [binOp, Op.stringOp, tl_str]; rfl, fun σ => by rw [dec_beq]; exact .bool _⟩
  case geq => exact ⟨_, _, h, fun w => by simp only [binOp, Op.stringOp, tl_str]; rfl, fun σ => .bool _⟩
  all_goals exact h.elim
end
end Go.PV
