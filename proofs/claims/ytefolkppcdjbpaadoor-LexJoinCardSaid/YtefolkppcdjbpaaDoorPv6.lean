/- Part of the proof of LexJoin. -/
import Derived.Test.YtefolkppcdjbpaaDoorPv5
import Derived.Laws.BytesArg
import Derived.Laws.Tables
namespace Go.PV
open Go Go.RowKit
theorem Cells.cut {R : V → Value → Prop} {l : List V} {cs : Array Value} (h : Cells R l cs) (off n : Nat) : Cells R ((l.drop off).take n) (cs.extract off (off + n)) := by
  refine ⟨by simp [h.1]; omega, fun j p hj => ?_⟩
  rw [List.getElem?_take] at hj
  split at hj
  · rename_i hjn
    rw [List.getElem?_drop] at hj
    obtain ⟨c, h1, h2⟩ := h.2 _ _ hj
    refine ⟨c, ?_, h2⟩
    rw [Array.getElem?_extract]
    have := (Array.getElem?_eq_some_iff.1 h1).1
    rw [if_pos (by omega)]; exact h1
  · cases hj
theorem run_load_cells {P : Program} {w : World} {b off : Nat} {R : V → Value → Prop} {l : List V} (h : ∀ (j : Nat) (p : V), l[j]? = some p → ∃ c, w.cell? ⟨b, off + j, none⟩ = some c ∧ R p c) :
    ∃ cs, (loadCells ⟨b, off, none⟩ l.length).run P w = .ok cs w ∧ Cells R l cs := by
  have hf : ∀ j, j < l.length → ∃ c, w.cell? ⟨b, off + j, none⟩ = some c := fun j hj => let ⟨c, h1, _⟩ := h j _ (List.getElem?_eq_getElem hj); ⟨c, h1⟩
  refine ⟨_, run_loadCells w ⟨b, off, none⟩ l.length (fun j => (w.cell? ⟨b, off + j, none⟩).getD undef) (fun j hj => ?_), by simp, fun j p hj => ?_⟩
  · obtain ⟨c, hc⟩ := hf j hj; rw [Addr.add_none, hc]; rfl
  · obtain ⟨c, h1, h2⟩ := h j p hj
    have hlt : j < l.length := (List.getElem?_eq_some_iff.1 hj).1
    exact ⟨c, by simp [hlt, h1], h2⟩
/-- of the cells from a place on: a value of a type -/
def ldK (P : Program) (t : TypeId) (m : List V) (k : V → Pr) : Pr := aggK P t fun ag => match ag with
  | true => szK P t fun n => force (m.take n) fun m' => match Nat.beq m'.length n with
    | true => k (.agg m')
    | false => .fail
  | false => match m with
    | p :: _ => k p
    | [] => .fail
section
variable {P : Program} {nt : Nat} {o : Oper}
theorem ldK_ok {t : TypeId} {m : List V} {k : V → Pr} {s : St} {K : St → Prop} {G : Gh} {w : World} {b off : Nat} (h : (ldK P t m k).mwp s K)
    (hc : ∀ (j : Nat) (p : V), m[j]? = some p → ∃ c, w.cell? ⟨b, off + j, none⟩ = some c ∧ RC G w s.O p c) : ∃ p v, (k p).mwp s K ∧ (loadVar t ⟨b, off, none⟩).run P w = .ok v w ∧ RV G w s.O p v := by
  obtain ⟨ag, h1, h⟩ := aggK_spec h
  cases ag with
  | true =>
    obtain ⟨i, h2, h⟩ := szK_spec h
    rw [force_eq] at h
    split at h
    · rename_i hn
      have hn := Nat.eq_of_beq_eq_true hn
      obtain ⟨cs, h3, h4⟩ := run_load_cells (P := P) (w := w) (b := b) (off := off) (R := RC G w s.O) (l := m.take i.size) (fun j p hj => hc j p (by rw [List.getElem?_take] at hj; split at hj <;> simp_all))
      exact ⟨_, .agg cs, h, by rw [hn] at h3; simp [loadVar, h1, run_sizeOf h2, h3], .any _ _ (.agg _ _ h4)⟩
    · exact h.elim
  | false =>
    dsimp only at h
    split at h
    · obtain ⟨c, h3, h4⟩ := hc 0 _ rfl
      exact ⟨_, c, h, by rw [Nat.add_zero] at h3; simp [loadVar, h1, h3], .any _ _ (.cell _ _ h4)⟩
    · exact h.elim
theorem RV.ptr_inv {G : Gh} {w : World} {O : Tb} {id gen off : Nat} {v : Value} {cells : List V} (h : RV G w O (.ptr id gen off) v) (ho : O id = some (.box gen cells)) : v = .pointer (some ⟨G.blk id, off, none⟩) := by
  cases h with | any _ _ h => cases h with | cell _ _ h => cases h with
    | sh _ _ h => cases h
    | ptr _ _ _ o' _ _ h1 _ h2 => rw [ho] at h1; cases h1; exact h2 rfl rfl
theorem RV.own_inv {G : Gh} {w : World} {O : Tb} {id gen n : Nat} {sh : Bool} {v : Value} {xs : List (List V)} (h : RV G w O (.own id gen) v) (ho : O id = some (.arr gen sh n xs)) : v = hdr G id xs.length := by
  cases h with | any _ _ h => cases h with | cell _ _ h => cases h with
    | sh _ _ h => cases h
    | own _ _ o' _ _ h1 _ h2 => rw [ho] at h1; cases h1; exact h2 n xs.length rfl rfl
theorem RV.elp_inv {G : Gh} {w : World} {O : Tb} {id gen i off n : Nat} {sh : Bool} {v : Value} {xs : List (List V)} (h : RV G w O (.elp id gen i off) v) (ho : O id = some (.arr gen sh n xs)) : G.isnil id = false ∧ v = .pointer (some ⟨G.blk id, i * n + off, none⟩) := by
  cases h with
  | any _ _ h => cases h with | cell _ _ h => cases h with | sh _ _ h => cases h
  | elp _ _ _ _ o' _ h1 _ h2 => rw [ho] at h1; cases h1; exact h2 n xs.length rfl rfl
theorem RV.rp_inv {G : Gh} {w : World} {O : Tb} {l : List V} {v : Value} (h : RV G w O (.rp l) v) : ∃ b off, v = .pointer (some ⟨b, off, none⟩) ∧ ∀ (j : Nat) (p : V), l[j]? = some p → ∃ c, stab G w b (off + j) c ∧ Sh (stab G w) p c := by
  cases h with
  | any _ _ h => cases h with | cell _ _ h => cases h with | sh _ _ h => cases h
  | rp _ b off h => exact ⟨b, off, rfl, h⟩
theorem RV.fn_inv {G : Gh} {w : World} {O : Tb} {f : FuncId} {l : List V} {v : Value} (h : RV G w O (.fn f l) v) : ∃ cs, v = .func (.func f) #[] cs ∧ Cells (RC G w O) l cs := by
  cases h with | any _ _ h => cases h with | cell _ _ h => cases h with
    | sh _ _ h => cases h with | fn => exact ⟨#[], rfl, rfl, fun j p hj => by simp at hj⟩
    | fn _ _ cs c hl hc hh => exact ⟨cs, rfl, hl, fun j p hj => ⟨c j, hc j (List.getElem?_eq_some_iff.1 hj).1, hh j p hj⟩⟩
/-- a box, if it is the one of that time -/
def boxK (id gen : Nat) (k : List V → Pr) : Pr := .getO id fun o => match o with
  | some (.box g cells) => match Nat.beq g gen with
    | true => k cells
    | false => .fail
  | _ => .fail
def arrK (id gen : Nat) (k : Bool → Nat → List (List V) → Pr) : Pr := .getO id fun o => match o with
  | some (.arr g sh n xs) => match Nat.beq g gen with
    | true => k sh n xs
    | false => .fail
  | _ => .fail
theorem boxK_spec {id gen : Nat} {k : List V → Pr} {s : St} {K : St → Prop} (h : (boxK id gen k).mwp s K) : ∃ cells, s.O id = some (.box gen cells) ∧ (k cells).mwp s K := by
  simp only [boxK, Pr.mwp] at h
  split at h
  · rename_i g cells e
    split at h
    · rename_i hg; have hg := Nat.eq_of_beq_eq_true hg; subst hg; exact ⟨cells, e, h⟩
    · exact h.elim
  · exact h.elim
theorem arrK_spec {id gen : Nat} {k : Bool → Nat → List (List V) → Pr} {s : St} {K : St → Prop} (h : (arrK id gen k).mwp s K) : ∃ sh n xs, s.O id = some (.arr gen sh n xs) ∧ (k sh n xs).mwp s K := by
  simp only [arrK, Pr.mwp] at h
  split at h
  · rename_i g sh n xs e
    split at h
    · rename_i hg; have hg := Nat.eq_of_beq_eq_true hg; subst hg; exact ⟨sh, n, xs, e, h⟩
    · exact h.elim
  · exact h.elim
theorem RG.box_cells {E : Ent} {G : Gh} {s : St} {a : Act} {w : World} (h : RG E G s a w) {id gen : Nat} {cells : List V} (ho : s.O id = some (.box gen cells)) (j : Nat) (p : V) (hj : cells[j]? = some p) : ∃ c, w.cell? ⟨G.blk id, j, none⟩ = some c ∧ RC G w s.O p c := by
  cases h.ob id _ ho with
  | box _ _ cs T hb hw hc => obtain ⟨c, h1, h2⟩ := hc.2 j p hj; exact ⟨c, by rw [cell_of_row w _ j cs T _ hb]; exact h1, h2⟩
theorem RG.arr_cells {E : Ent} {G : Gh} {s : St} {a : Act} {w : World} (h : RG E G s a w) {id gen n : Nat} {sh : Bool} {xs : List (List V)} (ho : s.O id = some (.arr gen sh n xs)) (i : Nat) (x : List V) (hi : xs[i]? = some x) (j : Nat) (p : V) (hj : x[j]? = some p) : ∃ c, w.cell? ⟨G.blk id, i * n + j, none⟩ = some c ∧ Sh (stab G w) p c := by
  cases h.ob id _ ho with
  | nil => simp at hi
  | arr _ _ _ _ cs T lim hn hb hw h0 hl hc hz hs ht hh => obtain ⟨c, h1, h2⟩ := hh i x j p hi hj; exact ⟨c, by rw [cell_of_row w _ _ cs T _ hb]; exact h1, h2⟩
theorem RG.arr_len {E : Ent} {G : Gh} {s : St} {a : Act} {w : World} (h : RG E G s a w) {id gen n : Nat} {sh : Bool} {xs : List (List V)} (ho : s.O id = some (.arr gen sh n xs)) (i : Nat) (x : List V) (hi : xs[i]? = some x) : x.length = n := by
  cases h.ob id _ ho with
  | nil => simp at hi
  | arr _ _ _ _ cs T lim hn hb hw h0 hl => exact hl i x hi
def prLoad (P : Program) (nt : Nat) (o : Oper) (t : TypeId) (x : Operand) : Pr := rdV x fun v => match v with
  | .ptr id gen off => boxK id gen fun cells => ldK P t (cells.drop off) fun p => setD nt o.dst p .done
  | .rp l => ldK P t l fun p => setD nt o.dst p .done
  | .elp id gen i off => arrK id gen fun _ _ xs => .ex (List V) (fun y => xs[i]? = some y) fun y => ldK P t (y.drop off) fun p => setD nt o.dst p .done
  | _ => .fail
theorem prLoad_ok [Env P] {t : TypeId} {x : Operand} (ho : o.op = .load t x) : OpS P nt o (prLoad P nt o t x) := by
  refine .pure fun E G s a w K hR hm => ?_
  simp only [prLoad, rdV_mwp] at hm
  have hx := ev_sound hR x
  have fin : ∀ {b off : Nat} {m : List V}, a.eval x = .pointer (some ⟨b, off, none⟩) → (ldK P t m fun p => setD nt o.dst p .done).mwp s K → (∀ (j : Nat) (p : V), m[j]? = some p → ∃ c, w.cell? ⟨b, off + j, none⟩ = some c ∧ RC G w s.O p c) →
      ∃ p v, (setD nt o.dst p .done).mwp s K ∧ (execOp a.eval o).run P w = .ok (.value v) w ∧ RV G w s.O p v := by
    intro b off m e h hc
    obtain ⟨p, v, h1, h2, h3⟩ := ldK_ok h hc
    exact ⟨p, v, h1, by simp [execOp, ho, e, Instr.loadAt, Instr.sureAddr, h2], h3⟩
  split at hm
  · rename_i id gen off e1
    rw [e1] at hx
    obtain ⟨cells, h1, h2⟩ := boxK_spec hm
    exact fin (hx.ptr_inv h1) h2 fun j p hj => hR.box_cells h1 _ p (by rw [List.getElem?_drop] at hj; exact hj)
  · rename_i l e1
    rw [e1] at hx
    obtain ⟨b, off, h1, h2⟩ := hx.rp_inv
    exact fin h1 hm fun j p hj => let ⟨c, h3, h4⟩ := h2 j p hj; ⟨c, h3.2, .sh _ _ h4⟩
  · rename_i id gen i off e1
    rw [e1] at hx
    obtain ⟨sh, n, xs, h1, y, hy, h2⟩ := arrK_spec hm
    obtain ⟨_, h3⟩ := hx.elp_inv h1
    exact fin h3 h2 fun j p hj => by
      rw [List.getElem?_drop] at hj
      obtain ⟨c, h4, h5⟩ := hR.arr_cells h1 i y hy _ p hj
      exact ⟨c, by rw [Nat.add_assoc]; exact h4, .sh _ _ h5⟩
  · exact hm.elim
/-- a field of a struct in a slot -/
def fieldK (P : Program) (t : TypeId) (f : Nat) (k : Field → Pr) : Pr := match P.underlying t with
  | some (.struct fs) => match fs[f]? with
    | some fd => k fd
    | none => .fail
  | _ => .fail
theorem fieldK_spec {t : TypeId} {f : Nat} {k : Field → Pr} {s : St} {K : St → Prop} (h : (fieldK P t f k).mwp s K) : ∃ fs fd, P.underlying t = some (.struct fs) ∧ fs[f]? = some fd ∧ (k fd).mwp s K := by
  unfold fieldK at h
  split at h
  · rename_i fs e
    split at h
    · rename_i fd e2; exact ⟨fs, fd, e, e2, h⟩
    · exact h.elim
  · exact h.elim
def prField (P : Program) (nt : Nat) (o : Oper) (t : TypeId) (x : Operand) (f : Nat) : Pr := rdV x fun v => match v with
  | .agg l => fieldK P t f fun fd => aggK P fd.type fun ag => match ag with
    | true => szK P fd.type fun n => force ((l.drop fd.offset).take n) fun m => setD nt o.dst (.agg m) .done
    | false => match l[fd.offset]? with
      | some p => setD nt o.dst p .done
      | none => .fail
  | _ => .fail
theorem prField_ok [Env P] {t : TypeId} {x : Operand} {f : Nat} (ho : o.op = .field t x f) : OpS P nt o (prField P nt o t x f) := by
  refine .pure fun E G s a w K hR hm => ?_
  simp only [prField, rdV_mwp] at hm
  have hx := ev_sound hR x
  split at hm
  · rename_i l e1
    rw [e1] at hx
    obtain ⟨cs, h1, h2⟩ := hx.agg_inv
    obtain ⟨fs, fd, h3, h4, hm⟩ := fieldK_spec hm
    obtain ⟨ag, h5, hm⟩ := aggK_spec hm
    cases ag with
    | true =>
      obtain ⟨i, h6, hm⟩ := szK_spec hm
      rw [force_eq] at hm
      exact ⟨_, .agg (cs.extract fd.offset (fd.offset + i.size)), hm, by simp [execOp, ho, h1, Instr.field, run_underlying h3, h4, asAgg, part, h5, run_sizeOf h6], .any _ _ (.agg _ _ (h2.cut _ _))⟩
    | false =>
      dsimp only at hm
      split at hm
      · rename_i p hp
        obtain ⟨c, h6, h7⟩ := h2.2 _ p hp
        exact ⟨p, c, hm, by simp [execOp, ho, h1, Instr.field, run_underlying h3, h4, asAgg, part, h5, h6], .any _ _ (.cell _ _ h7)⟩
      · exact hm.elim
  · exact hm.elim
/-- a field's address -/
def prFieldAddr (P : Program) (nt : Nat) (o : Oper) (t : TypeId) (x : Operand) (f : Nat) : Pr := rdV x fun v => fieldK P t f fun fd => szK P fd.type fun n => match n with
  | 0 => .fail
  | _ + 1 => match v with
    | .ptr id gen off => boxK id gen fun _ => setD nt o.dst (.ptr id gen (off + fd.offset)) .done
    | .elp id gen i off => arrK id gen fun _ _ _ => setD nt o.dst (.elp id gen i (off + fd.offset)) .done
    | .rp l => force (l.drop fd.offset) fun m => setD nt o.dst (.rp m) .done
    | _ => .fail
theorem prFieldAddr_ok [Env P] {t : TypeId} {x : Operand} {f : Nat} (ho : o.op = .fieldAddr t x f) : OpS P nt o (prFieldAddr P nt o t x f) := by
  refine .pure fun E G s a w K hR hm => ?_
  simp only [prFieldAddr, rdV_mwp] at hm
  have hx := ev_sound hR x
  obtain ⟨fs, fd, h3, h4, hm⟩ := fieldK_spec hm
  obtain ⟨i, h5, hm⟩ := szK_spec hm
  split at hm
  · exact hm.elim
  · rename_i n hn
    have run : ∀ {b off : Nat}, a.eval x = .pointer (some ⟨b, off, none⟩) → (execOp a.eval o).run P w = .ok (.value (.pointer (some ⟨b, off + fd.offset, none⟩))) w := by
      intro b off e
      simp [execOp, ho, e, Instr.fieldAt, run_underlying h3, h4, Instr.sureAddr, fieldPlace, run_sizeOf h5, hn, Addr.add_none]
    split at hm
    · rename_i id gen off e1
      rw [e1] at hx
      obtain ⟨cells, h1, hm⟩ := boxK_spec hm
      exact ⟨_, _, hm, run (hx.ptr_inv h1), .any _ _ (.cell _ _ (.ptr _ _ _ _ _ rfl h1 (Nat.le_refl _) fun _ _ => rfl))⟩
    · rename_i id gen i off e1
      rw [e1] at hx
      obtain ⟨sh, c, xs, h1, hm⟩ := arrK_spec hm
      obtain ⟨h6, h7⟩ := hx.elp_inv h1
      refine ⟨_, _, hm, run h7, .elp _ _ _ _ _ _ h1 (Nat.le_refl _) fun m len _ e => ?_⟩
      simp only [Ob.sig, Option.some.injEq, Prod.mk.injEq] at e
      rw [← e.1, Nat.add_assoc]; exact ⟨h6, rfl⟩
    · rename_i l e1
      rw [e1] at hx
      rw [force_eq] at hm
      obtain ⟨b, off, h1, h2⟩ := hx.rp_inv
      refine ⟨_, _, hm, run h1, .rp _ _ _ fun j p hj => ?_⟩
      rw [List.getElem?_drop] at hj
      rw [Nat.add_assoc]; exact h2 _ _ hj
    · exact hm.elim
/-- an element's address -/
def prIndexAddr (P : Program) (nt : Nat) (o : Oper) (t : TypeId) (x ix : Operand) : Pr := rdV x fun v => rdV ix fun u => match P.underlying t, u with
  | some (.slice e), .int _ i => szK P e fun m => match v with
    | .sl n xs => match Nat.beq m n with
      | true => .ex (List V) (fun y => 0 ≤ i ∧ xs[i.toNat]? = some y) fun y => setD nt o.dst (.rp y) .done
      | false => .fail
    | .own id gen => arrK id gen fun _ n xs => match Nat.beq m n with
      | true => .ex PUnit (fun _ => 0 ≤ i ∧ i < xs.length) fun _ => setD nt o.dst (.elp id gen i.toNat 0) .done
      | false => .fail
    | _ => .fail
  | _, _ => .fail
theorem prIndexAddr_ok [Env P] {t : TypeId} {x ix : Operand} (ho : o.op = .indexAddr t x ix) : OpS P nt o (prIndexAddr P nt o t x ix) := by
  refine .pure fun E G s a w K hR hm => ?_
  simp only [prIndexAddr, rdV_mwp] at hm
  have hx := ev_sound hR x
  have hy := ev_sound hR ix
  split at hm
  · rename_i e k i ht e2
    rw [e2] at hy
    obtain ⟨ei, h3, hm⟩ := szK_spec hm
    have run : ∀ {b off len cap : Nat}, a.eval x = .slice (some ⟨b, off, none⟩) len cap → 0 ≤ i → i < len → (execOp a.eval o).run P w = .ok (.value (.pointer (some ⟨b, off + i.toNat * ei.size, none⟩))) w := by
      intro b off len cap ex h0 h1
      have h2 : (0 ≤ i ∧ i < (len : Int)) := ⟨h0, h1⟩
      simp [execOp, ho, ex, hy.int_inv, Instr.indexAt, asIntOf, run_underlying ht, h2, run_sizeOf h3, Addr.add_none]
    split at hm
    · rename_i n xs e1
      rw [e1] at hx
      split at hm
      · rename_i hn
        have hn := Nat.eq_of_beq_eq_true hn
        obtain ⟨y, ⟨h4, h5⟩, hm⟩ := hm
        have hlt := (List.getElem?_eq_some_iff.1 h5).1
        cases hv : a.eval x with
        | slice ad len cap =>
          have hs := hx.sl_inv
          rw [hv] at hs
          cases hs with
          | sl0 => simp at h5
          | sl _ _ b off _ c h0 hl hc hs hh =>
            refine ⟨_, _, hm, run hv h4 (by omega), .rp _ _ _ fun j p hj => ?_⟩
            rw [hn]
            exact ⟨_, hs _ _ _ _ h5 hj, hh _ _ _ _ h5 hj⟩
        | _ => have hs := hx.sl_inv; rw [hv] at hs; cases hs
      · exact hm.elim
    · rename_i id gen e1
      rw [e1] at hx
      obtain ⟨sh, n, xs, h1, hm⟩ := arrK_spec hm
      split at hm
      · rename_i hn
        have hn := Nat.eq_of_beq_eq_true hn
        obtain ⟨_, ⟨h4, h5⟩, hm⟩ := hm
        have e6 := hx.own_inv h1
        have hnil : G.isnil id = false := by
          cases hR.ob id _ h1 with
          | nil => simp at h5; omega
          | arr => assumption
        rw [hdr, hnil] at e6
        refine ⟨_, _, hm, run e6 h4 h5, .elp _ _ _ _ _ _ h1 (Nat.le_refl _) fun c len _ e => ?_⟩
        simp only [Ob.sig, Option.some.injEq, Prod.mk.injEq] at e
        rw [← e.1, hn, Nat.zero_add]; exact ⟨hnil, rfl⟩
      · exact hm.elim
    · exact hm.elim
  · exact hm.elim
/-- is it nil? -/
def prNil (nt : Nat) (o : Oper) (x : Operand) : Pr := rdV x fun v => match v with
  | .ptr id gen off => boxK id gen fun _ => setD nt o.dst (.ptr id gen off) .done
  | .elp id gen i off => arrK id gen fun _ _ _ => setD nt o.dst (.elp id gen i off) .done
  | .rp l => setD nt o.dst (.rp l) .done
  | .fn f cs => setD nt o.dst (.fn f cs) .done
  | _ => .fail
theorem prNil_ok [Env P] {x : Operand} (ho : o.op = .nilCheck x) : OpS P nt o (prNil nt o x) := by
  refine .pure fun E G s a w K hR hm => ?_
  simp only [prNil, rdV_mwp] at hm
  have hx := ev_sound hR x
  have run : ∀ {p : Addr}, a.eval x = .pointer (some p) → (execOp a.eval o).run P w = .ok (.value (a.eval x)) w := by
    intro p e; simp [execOp, ho, e]
  split at hm
  · rename_i id gen off e1
    rw [e1] at hx
    obtain ⟨cells, h1, hm⟩ := boxK_spec hm
    exact ⟨_, _, hm, run (hx.ptr_inv h1), hx⟩
  · rename_i id gen i off e1
    rw [e1] at hx
    obtain ⟨sh, c, xs, h1, hm⟩ := arrK_spec hm
    exact ⟨_, _, hm, run (hx.elp_inv h1).2, hx⟩
  · rename_i l e1
    rw [e1] at hx
    obtain ⟨b, off, h1, h2⟩ := hx.rp_inv
    exact ⟨_, _, hm, run h1, hx⟩
  · rename_i f cs e1
    rw [e1] at hx
    obtain ⟨c, h2, _⟩ := hx.fn_inv
    refine ⟨_, _, hm, ?_, hx⟩
    simp [execOp, ho, h2]
  · exact hm.elim
end
end Go.PV
