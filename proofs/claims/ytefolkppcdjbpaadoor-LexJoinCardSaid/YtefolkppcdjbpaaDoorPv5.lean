/- Part of the proof of LexJoin. -/
import Derived.Test.YtefolkppcdjbpaaDoorPv4
namespace Go.PV
open Go Go.RowKit
def szK (P : Program) (t : TypeId) (k : Nat → Pr) : Pr := match P.toTables.info? t with
  | some i => k i.size
  | none => .fail
theorem szK_spec {P : Program} {t : TypeId} {k : Nat → Pr} {s : St} {K : St → Prop} (h : (szK P t k).mwp s K) : ∃ i, P.toTables.info? t = some i ∧ (k i.size).mwp s K := by
  unfold szK at h; split at h
  · rename_i i hi; exact ⟨i, hi, h⟩
  · exact h.elim
theorem run_sizeOf {P : Program} {t : TypeId} {i : TypeInfo} (h : P.toTables.info? t = some i) (w : World) : (Go.sizeOf t).run P w = .ok i.size w := by simp [Go.sizeOf, typeInfo, h]
def isAggD : TypeDesc → Bool
  | .struct _ => true
  | .array _ _ => true
  | _ => false
def aggK (P : Program) (t : TypeId) (k : Bool → Pr) : Pr := match P.underlying t with
  | some (.struct _) => k true
  | some (.array _ _) => k true
  | some _ => k false
  | none => .fail
theorem aggK_spec {P : Program} {t : TypeId} {k : Bool → Pr} {s : St} {K : St → Prop} (h : (aggK P t k).mwp s K) : ∃ b, (∀ w, (isAgg t).run P w = .ok b w) ∧ (k b).mwp s K := by
  unfold aggK at h; split at h
  · rename_i f hf; exact ⟨true, fun w => by simp [isAgg, run_underlying hf], h⟩
  · rename_i n e hf; exact ⟨true, fun w => by simp [isAgg, run_underlying hf], h⟩
  · rename_i d h1 h2 hf
    refine ⟨false, fun w => ?_, h⟩
    simp only [isAgg, Sem.run_bind, run_underlying hf, Result.andThen_ok]
    rfl
  · exact h.elim
def cutK {α : Type} (l : List α) (a b : Option Int) (k : List α → Pr) : Pr := match a, b with
  | none, none => k l
  | some a, none => k (l.drop a.toNat)
  | none, some b => k (l.take b.toNat)
  | some a, some b => k ((l.take b.toNat).drop a.toNat)
theorem cutK_eq {α : Type} (l : List α) (a b : Option Int) (k : List α → Pr) : cutK l a b k = k (cutL l a b) := by cases a <;> cases b <;> rfl
def okK (len : Nat) (a b : Option Int) (k : Pr) : Pr := match a, b with
  | none, none => k
  | some a, none => .ex PUnit (fun _ => 0 ≤ a ∧ a ≤ len) fun _ => k
  | none, some b => .ex PUnit (fun _ => 0 ≤ b ∧ b ≤ len) fun _ => k
  | some a, some b => .ex PUnit (fun _ => 0 ≤ a ∧ a ≤ b ∧ b ≤ len) fun _ => k
theorem okK_spec {len : Nat} {a b : Option Int} {k : Pr} {s : St} {K : St → Prop} (h : (okK len a b k).mwp s K) : cutOk len a b ∧ k.mwp s K := by
  cases a <;> cases b <;> simp only [okK] at h
  · exact ⟨trivial, h⟩
  · obtain ⟨_, h1, h2⟩ := h; exact ⟨h1, h2⟩
  · obtain ⟨_, h1, h2⟩ := h; exact ⟨h1, h2⟩
  · obtain ⟨_, h1, h2⟩ := h; exact ⟨h1, h2⟩
theorem str_extract (l : List UInt8) (a b : Nat) : (⟨l.toArray⟩ : ByteArray).extract a b = ⟨((l.take b).drop a).toArray⟩ := by
  apply ByteArray.ext
  rw [ByteArray.data_extract]
  simp [List.drop_take]
theorem str_size (l : List UInt8) : (⟨l.toArray⟩ : ByteArray).size = l.length := by simp [ByteArray.size]
theorem Addr.add_none (b off k : Nat) : (⟨b, off, none⟩ : Addr).add k = ⟨b, off + k, none⟩ := by unfold Addr.add; split <;> simp_all
theorem mul_at {n L i j : Nat} (hi : i < L) (hj : j < n) : i * n + j < L * n := by
  have : (i + 1) * n ≤ L * n := Nat.mul_le_mul_right n hi
  rw [Nat.add_mul, Nat.one_mul] at this; omega
/-- a part of a shared slice is one -/
theorem Sh.cut {σ : Nat → Nat → Value → Prop} {n : Nat} {xs : List (List V)} {v : Value} (h : Sh σ (.sl n xs) v) {lo hi : Nat} (h1 : lo ≤ hi) (h2 : hi ≤ xs.length) :
    ∃ a len cap, v = .slice a len cap ∧ len = xs.length ∧ len ≤ cap ∧ Sh σ (.sl n ((xs.take hi).drop lo)) (.slice (if cap = lo then a else a.map (·.add (lo * n))) (hi - lo) (cap - lo)) := by
  have hlen : ((xs.take hi).drop lo).length = hi - lo := by simp; omega
  have hget : ∀ i, ((xs.take hi).drop lo)[i]? = if i < hi - lo then xs[lo + i]? else none := by
    intro i; rw [List.getElem?_drop, List.getElem?_take]; split <;> split <;> first | rfl | omega
  cases h with
  | sl0 =>
    refine ⟨_, _, _, rfl, rfl, Nat.zero_le _, ?_⟩
    simp at h2; subst h2
    have : lo = 0 := by omega
    subst this
    exact .sl0 _ _ _
  | sl _ _ b off cap c h0 hl hc hs hh =>
    refine ⟨_, _, _, rfl, rfl, hc, ?_⟩
    by_cases e : cap = lo
    · rw [if_pos e, ← hlen]
      have hz : hi - lo = 0 := by omega
      refine .sl n _ b off _ c h0 (fun i x hx => ?_) (by rw [hlen]; omega) (fun i x j p hx => ?_) (fun i x j p hx => ?_) <;> (rw [hget, if_neg (by omega)] at hx; cases hx)
    · rw [if_neg e, ← hlen]
      simp only [Option.map_some, Addr.add_none]
      refine .sl n _ b (off + lo * n) _ (fun i j => c (lo + i) j) h0 (fun i x hx => ?_) (by rw [hlen]; omega) (fun i x j p hx hj => ?_) (fun i x j p hx hj => ?_)
      · rw [hget] at hx; split at hx
        · exact hl _ _ hx
        · cases hx
      · rw [hget] at hx; split at hx
        · have := hs _ _ _ _ hx hj
          rw [Nat.add_mul] at this
          rw [show off + lo * n + i * n + j = off + (lo * n + i * n) + j by omega]; exact this
        · cases hx
      · rw [hget] at hx; split at hx
        · exact hh _ _ _ _ hx hj
        · cases hx
section
variable {P : Program} {nt : Nat} {o : Oper}
theorem bnd_none {ρ : Operand → Value} {x : Option Operand} (h : x = none) : Bnd ρ x none := by subst h; trivial
theorem optV_bnd {E : Ent} {G : Gh} {s : St} {a : Act} {w : World} {K : St → Prop} (hR : RG E G s a w) {x : Option Operand} {k : Option Int → Pr} (h : (optV x k).mwp s K) :
    ∃ n, Bnd a.eval x n ∧ (k n).mwp s K := by
  rcases optV_spec hR h with ⟨rfl, h⟩ | ⟨y, i, n, rfl, h1, h⟩
  · exact ⟨none, trivial, h⟩
  · exact ⟨some n, ⟨i, h1⟩, h⟩
def prCutStr (P : Program) (nt : Nat) (o : Oper) (t : TypeId) (l : List UInt8) (a b : Option Int) : Pr := match P.underlying t with
  | some .string => okK l.length a b (cutK l a b fun m => setD nt o.dst (.str m) .done)
  | _ => .fail
def prCutSl (P : Program) (nt : Nat) (o : Oper) (t : TypeId) (n : Nat) (xs : List (List V)) (a b : Option Int) : Pr := match P.underlying t with
  | some (.slice e) => szK P e fun m => match Nat.beq m n with
    | true => okK xs.length a b (cutK xs a b fun ys => setD nt o.dst (.sl n ys) .done)
    | false => .fail
  | _ => .fail
theorem cut_str {t : TypeId} {x : Operand} {lo hi : Option Operand} (ho : o.op = .slice t x lo hi none) {G : Gh} {s : St} {a : Act} {w : World} {K : St → Prop} {l : List UInt8} (hx : RV G w s.O (.str l) (a.eval x)) {m n : Option Int}
    (hm : Bnd a.eval lo m) (hn : Bnd a.eval hi n) (h : (prCutStr P nt o t l m n).mwp s K) : ∃ p v, (setD nt o.dst p .done).mwp s K ∧ (execOp a.eval o).run P w = .ok (.value v) w ∧ RV G w s.O p v := by
  unfold prCutStr at h
  split at h
  · rename_i ht
    obtain ⟨h1, h⟩ := okK_spec h
    rw [cutK_eq] at h
    refine ⟨_, .string ⟨(cutL l m n).toArray⟩, h, ?_, .of_sh (.str _)⟩
    have hb := run_sliceBounds (P := P) (sl := false) (cap := l.length) w hm hn h1 (Nat.le_refl _)
    simp only [execOp, ho, hx.str_inv, Instr.sliceAt, Instr.slice, Sem.run_bind, run_underlying ht, Result.andThen_ok, str_size, hb, Option.map_none, Option.isSome_none, Bool.false_eq_true, if_false, str_extract, cutL_eq, Sem.run_pure]
  · exact h.elim
theorem cut_sl {t : TypeId} {x : Operand} {lo hi : Option Operand} (ho : o.op = .slice t x lo hi none) {G : Gh} {s : St} {a : Act} {w : World} {K : St → Prop} {c : Nat} {xs : List (List V)} (hx : RV G w s.O (.sl c xs) (a.eval x)) {m n : Option Int}
    (hm : Bnd a.eval lo m) (hn : Bnd a.eval hi n) (h : (prCutSl P nt o t c xs m n).mwp s K) : ∃ p v, (setD nt o.dst p .done).mwp s K ∧ (execOp a.eval o).run P w = .ok (.value v) w ∧ RV G w s.O p v := by
  unfold prCutSl at h
  split at h
  · rename_i e ht
    obtain ⟨i, hi1, h⟩ := szK_spec h
    split at h
    · rename_i hsz
      have hsz := Nat.eq_of_beq_eq_true hsz
      obtain ⟨h1, h⟩ := okK_spec h
      rw [cutK_eq, cutL_eq] at h
      obtain ⟨ad, len, cap, h2, h3, h4, h5⟩ := hx.sl_inv.cut h1.le.1 h1.le.2
      refine ⟨_, _, h, ?_, .of_sh h5⟩
      subst h3
      have hb := run_sliceBounds (P := P) (sl := true) w hm hn h1 h4
      simp only [execOp, ho, h2, Instr.sliceAt, Instr.slice, Sem.run_bind, run_underlying ht, Result.andThen_ok, hb, Option.map_none, run_sizeOf hi1, Sem.run_pure, hsz]
    · exact h.elim
  · exact h.elim
/-- a byte of a string -/
def prIndex (P : Program) (nt : Nat) (o : Oper) (t : TypeId) (x ix : Operand) : Pr := rdV x fun v => rdV ix fun u => match v, u with
  | .str l, .int _ i => match P.underlying t with
    | some .string => .ex UInt8 (fun b => 0 ≤ i ∧ l[i.toNat]? = some b) fun b => setD nt o.dst (.int .u8 b.toNat) .done
    | _ => .fail
  | _, _ => .fail
theorem str_at (l : List UInt8) (i : Nat) : (⟨l.toArray⟩ : ByteArray)[i]? = l[i]? := by
  by_cases h : i < l.length
  · rw [getElem?_pos (⟨l.toArray⟩ : ByteArray) i (by simpa [str_size] using h), List.getElem?_eq_getElem h]; rfl
  · rw [getElem?_neg (⟨l.toArray⟩ : ByteArray) i (by simpa [str_size] using h), List.getElem?_eq_none (by omega)]
theorem prIndex_ok [Env P] {t : TypeId} {x ix : Operand} (ho : o.op = .index t x ix) : OpS P nt o (prIndex P nt o t x ix) := by
  refine .pure fun E G s a w K hR hm => ?_
  simp only [prIndex, rdV_mwp] at hm
  have hx := ev_sound hR x
  have hy := ev_sound hR ix
  split at hm
  · rename_i l k i e1 e2
    rw [e1] at hx; rw [e2] at hy
    split at hm
    · rename_i ht
      obtain ⟨b, ⟨h1, h2⟩, hm⟩ := hm
      refine ⟨_, .int .u8 b.toNat, hm, ?_, .of_sh (.int _ _)⟩
      simp only [execOp, ho, hx.str_inv, hy.int_inv, Instr.index, asIntOf, Sem.run_bind, Sem.run_pure, Result.andThen_ok, run_underlying ht, if_pos h1, str_at, h2]
    · exact hm.elim
  · exact hm.elim
/-- a part of a tuple -/
def prExtract (nt : Nat) (o : Oper) (x : Operand) (i : Nat) : Pr := rdV x fun v => match v with
  | .tup l => match l[i]? with
    | some p => setD nt o.dst p .done
    | none => .fail
  | _ => .fail
theorem prExtract_ok [Env P] {x : Operand} {i : Nat} (ho : o.op = .extract x i) : OpS P nt o (prExtract nt o x i) := by
  refine .pure fun E G s a w K hR hm => ?_
  simp only [prExtract, rdV_mwp] at hm
  have hx := ev_sound hR x
  split at hm
  · rename_i l e1
    rw [e1] at hx
    obtain ⟨cs, h1, h2⟩ := hx.tup_inv
    split at hm
    · rename_i p hp
      obtain ⟨c, h3, h4⟩ := h2.2 i p hp
      exact ⟨p, c, hm, by simp [execOp, ho, h1, Instr.extract, h3], .any _ _ h4⟩
    · exact hm.elim
  · exact hm.elim
end
end Go.PV
