/- Part of the proof of LexJoin. -/
import Derived.Test.YtefolkppcdjbpaaDoorPv8
import Derived.Laws.OwnMore
namespace Go.PV
open Go Go.RowKit
section
variable {P : Program} {nt : Nat} {o : Oper}
theorem fold_put (off : Nat) : ∀ (l : List Value) (i : Nat) (cs : Array Value), off + i + l.length ≤ cs.size → (l.zipIdx i).foldl (fun cs x => cs.setIfInBounds (off + x.2) x.1) cs = (lay cs.toList (off + i) l).toArray
  | [], i, cs, h => by simp [lay]
  | v :: l, i, cs, h => by
    simp only [List.length_cons] at h
    rw [List.zipIdx_cons, List.foldl_cons, fold_put off l (i + 1) _ (by simp; omega)]
    congr 1
    apply List.ext_getElem?
    intro j
    rw [lay_get _ _ _ _ (by simp; omega), lay_get _ _ _ _ (by simp; omega)]
    simp only [List.length_cons, Array.toList_setIfInBounds, List.getElem?_set]
    have hl : off + i < cs.toList.length := by simpa using (by omega : off + i < cs.size)
    by_cases h1 : j = off + i
    · subst h1
      rw [if_neg (by omega), if_pos rfl, if_pos hl, if_pos (by omega), Nat.sub_self]; rfl
    · by_cases h2 : off + (i + 1) ≤ j ∧ j < off + (i + 1) + l.length
      · rw [if_pos h2, if_pos (by omega), show j - (off + i) = (j - (off + (i + 1))) + 1 by omega]; rfl
      · rw [if_neg h2, if_neg (by omega), if_neg (by omega)]
theorem fill_cons {place : Nat → Option (Nat × Nat)} {cs : Array Value} {i off n : Nat} {v : Value} {r : List (Nat × Value)} (hp : place i = some (off, n)) (hn : v.cells.size = n) (hle : off + n ≤ cs.size) :
    Instr.fill place cs ((i, v) :: r) = Instr.fill place (lay cs.toList off v.cells.toList).toArray r := by
  rw [Instr.fill.eq_2, hp]
  have h1 : (decide (v.cells.size ≠ n) || decide (off + v.cells.size > cs.size)) = false := by simp [hn]; omega
  simp only [h1, Bool.false_eq_true, if_false]
  congr 1
  have := fold_put off v.cells.toList 0 cs (by simpa [hn] using hle)
  rw [← Array.foldl_toList, Array.toList_zipIdx]
  simpa using this
def fillK (place : Nat → Option (Nat × Nat)) : List (Nat × Operand) → List V → (List V → Pr) → Pr
  | [], l, k => k l
  | (i, x) :: r, l, k => match place i with
    | none => .fail
    | some (off, n) => rdV x fun v => cellsK v fun c => match Nat.beq c.length n with
      | true => layK l off c fun l' => fillK place r l' k
      | false => .fail
theorem fillK_ok {E : Ent} {G : Gh} {s : St} {a : Act} {w : World} {K : St → Prop} {place : Nat → Option (Nat × Nat)} (hR : RG E G s a w) : ∀ {r : List (Nat × Operand)} {l : List V} {cs : Array Value} {k : List V → Pr}, (fillK place r l k).mwp s K → Cells (RC G w s.O) l cs →
    ∃ l' cs', (k l').mwp s K ∧ Instr.fill place cs (r.map fun x => (x.1, a.eval x.2)) = some cs' ∧ Cells (RC G w s.O) l' cs'
  | [], l, cs, k, h, hc => ⟨l, cs, h, rfl, hc⟩
  | (i, x) :: r, l, cs, k, h, hc => by
    simp only [fillK] at h
    split at h
    · exact h.elim
    · rename_i off n hp
      rw [rdV_mwp] at h
      obtain ⟨c, h, h1⟩ := cellsK_ok (ev_sound hR x) h
      split at h
      · rename_i hn
        have hn := Nat.eq_of_beq_eq_true hn
        obtain ⟨hle, h⟩ := layK_spec h
        obtain ⟨l', cs', h2, h3, h4⟩ := fillK_ok hR h (hc.lay h1 hle)
        refine ⟨l', cs', h2, ?_, h4⟩
        rw [List.map_cons, fill_cons hp (by rw [h1.1, hn]) (by rw [hc.1, ← hn]; exact hle)]
        exact h3
      · exact h.elim
def prBuild (P : Program) (nt : Nat) (o : Oper) (t : TypeId) (parts : Array (Nat × Operand)) : Pr := match P.underlying t with
  | some (.struct fields) => match fields.toList.mapM (fun f => (P.toTables.info? f.type).map fun i => (f.offset, i.size)) with
    | some places => zeroK P t fun l => fillK (fun i => places.toArray[i]?) parts.toList l fun l' => setD nt o.dst (.agg l') .done
    | none => .fail
  | _ => .fail
theorem prBuild_ok [Env P] {t : TypeId} {parts : Array (Nat × Operand)} (ho : o.op = .build t parts) : OpS P nt o (prBuild P nt o t parts) := by
  refine .pure fun E G s a w K hR hm => ?_
  unfold prBuild at hm
  split at hm
  · rename_i fields hu
    split at hm
    · rename_i places hp
      obtain ⟨it, z, l, h1, h2, h3, hm⟩ := zeroK_spec hm
      obtain ⟨l', cs', h4, h5, h6⟩ := fillK_ok hR hm (h3 G w s.O)
      refine ⟨_, .agg cs', h4, ?_, .any _ _ (.agg _ _ h6)⟩
      have hb : P.built t (parts.map fun (i, x) => (i, a.eval x)).toList = some cs' := by
        unfold Program.built
        simp only [h1, hu, h2, hp]
        rw [Array.toList_map]; exact h5
      simp only [execOp, ho, Sem.run_bind, run_build w t _ cs' hb, Result.andThen_ok]; rfl
    · exact hm.elim
  · exact hm.elim
/-- elements, one behind the other, in flat cells -/
structure Flat (σ : Nat → Nat → Value → Prop) (n : Nat) (xs : List (List V)) (cs : List Value) : Prop where
  sz : cs.length = xs.length * n
  ln : ∀ (i : Nat) (x : List V), xs[i]? = some x → x.length = n
  at_ : ∀ (i : Nat) (x : List V) (j : Nat) (p : V), xs[i]? = some x → x[j]? = some p → ∃ c, cs[i * n + j]? = some c ∧ Sh σ p c
theorem Flat.mono {σ σ' : Nat → Nat → Value → Prop} {n : Nat} {xs : List (List V)} {cs : List Value} (h : Flat σ n xs cs) (hs : ∀ b o c, σ b o c → σ' b o c) : Flat σ' n xs cs :=
  ⟨h.sz, h.ln, fun i x j p hi hj => let ⟨c, h1, h2⟩ := h.at_ i x j p hi hj; ⟨c, h1, h2.mono hs⟩⟩
theorem Flat.set {σ : Nat → Nat → Value → Prop} {n : Nat} {xs : List (List V)} {cs ds : List Value} {m : List V} {i : Nat} (h : Flat σ n xs cs) (hi : i < xs.length) (hm : m.length = n) (hd : ds.length = n)
    (hc : ∀ (j : Nat) (p : V), m[j]? = some p → ∃ c, ds[j]? = some c ∧ Sh σ p c) : Flat σ n (xs.set i m) (lay cs (i * n) ds) ∧ i * n + ds.length ≤ cs.length := by
  have hle : i * n + ds.length ≤ cs.length := by
    have : (i + 1) * n ≤ xs.length * n := Nat.mul_le_mul_right n hi
    rw [Nat.add_mul, Nat.one_mul] at this; rw [h.sz]; omega
  refine ⟨⟨by rw [lay_length _ _ _ hle]; simpa using h.sz, fun k x hx => ?_, fun k x j p hx hj => ?_⟩, hle⟩
  · rw [List.getElem?_set] at hx
    split at hx
    · rename_i e; subst e; cases hx; exact hm
    · exact h.ln k x hx
  · rw [lay_get _ _ _ _ hle, hd]
    rw [List.getElem?_set] at hx
    split at hx
    · rename_i e; subst e; cases hx
      have := (List.getElem?_eq_some_iff.1 hj).1
      rw [if_pos (by omega), show i * n + j - i * n = j by omega]; exact hc j p hj
    · rename_i hne
      have hjl : j < n := by rw [← h.ln _ _ hx]; exact (List.getElem?_eq_some_iff.1 hj).1
      rw [if_neg]
      · exact h.at_ k x j p hx hj
      · intro ⟨q1, q2⟩
        rcases Nat.lt_or_gt_of_ne hne with hlt | hgt
        · have : (i + 1) * n ≤ k * n := Nat.mul_le_mul_right n hlt
          rw [Nat.add_mul, Nat.one_mul] at this; omega
        · have : (k + 1) * n ≤ i * n := Nat.mul_le_mul_right n hgt
          rw [Nat.add_mul, Nat.one_mul] at this; omega
def fillS (n : Nat) : List (Nat × Operand) → List (List V) → (List (List V) → Pr) → Pr
  | [], xs, k => k xs
  | (i, x) :: r, xs, k => rdV x fun v => cellsK v fun c => shLK c fun m => match Nat.beq m.length n, Nat.blt i xs.length with
    | true, true => force (xs.set i m) fun ys => fillS n r ys k
    | _, _ => .fail
theorem eval_eq {a : Act} {x : Operand} : (a.eval x) = a.eval x := rfl
theorem fillS_ok {E : Ent} {a : Act} {w : World} {K : St → Prop} {n : Nat} : ∀ {r : List (Nat × Operand)} {G : Gh} {s : St} {xs : List (List V)} {cs : Array Value} {k : List (List V) → Pr}, RG E G s a w → (fillS n r xs k).mwp s K → Flat (stab G w) n xs cs.toList →
    ∃ G' s' xs' cs', RG E G' s' a w ∧ Le G w s.O G' w s'.O ∧ (k xs').mwp s' K ∧ Instr.fill (fun i => some (i * n, n)) cs (r.map fun x => (x.1, a.eval x.2)) = some cs' ∧ Flat (stab G' w) n xs' cs'.toList ∧ xs'.length = xs.length
  | [], G, s, xs, cs, k, hR, h, hf => ⟨G, s, xs, cs, hR, .refl, h, rfl, hf, rfl⟩
  | (i, x) :: r, G, s, xs, cs, k, hR, h, hf => by
    simp only [fillS, rdV_mwp] at h
    obtain ⟨c, h, h1⟩ := cellsK_ok (ev_sound hR x) h
    obtain ⟨G1, s1, m, hR1, hle1, hV1, h, hlen, hcells⟩ := shLK_ok (xs := (a.eval x).cells.toList) hR (by simpa using h1.1.symm) (fun j p hj => by simpa using h1.2 j p hj) h
    split at h
    · rename_i hn hi
      have hn := Nat.eq_of_beq_eq_true hn
      have hi : i < xs.length := by simpa using hi
      rw [force_eq] at h
      obtain ⟨h2, h3⟩ := (hf.mono hle1.hs).set hi hn (by rw [← hlen, hn]) hcells
      obtain ⟨G2, s2, xs', cs', hR2, hle2, h4, h5, h6, h7⟩ := fillS_ok (cs := (lay cs.toList (i * n) (a.eval x).cells.toList).toArray) hR1 h (by simpa using h2)
      refine ⟨G2, s2, xs', cs', hR2, hle1.trans hle2, h4, ?_, h6, by simpa using h7⟩
      have hcs : (a.eval x).cells.size = n := by rw [← hn, hlen]; simp
      rw [List.map_cons, fill_cons (v := a.eval x) rfl hcs (by simpa [hcs] using h3)]
      exact h5
    · exact h.elim
/-- a new row of one's own -/
theorem newG_arr {G : Gh} {w w' : World} {O O' : Tb} {id cap g n : Nat} {xs : List (List V)} {cs : Array Value} {T : TypeId} (hw : w'.heap = w.heap.push (.cells cs T (0, 0))) (hle : Le G w O (newG G id w.heap.size cap) w' O') {fs : List Value} (hf : Flat (stab G w) n xs fs) (h0 : 0 < n) (hcap : xs.length ≤ cap)
    (hz : cap * n ≤ cs.size) (hp : ∀ (j : Nat) (c : Value), fs[j]? = some c → cs[j]? = some c) (sh : Bool) : RO (newG G id w.heap.size cap) w' O' id (.arr g sh n xs) := by
  refine .arr _ _ _ _ cs T 0 (by simp [newG, upd_same]) ?_ ?_ h0 hf.ln (by simpa [newG, upd_same] using hcap) (by simpa [newG, upd_same] using hz) (fun _ => rfl) (Nat.zero_le _) (fun i x j p hi hj => ?_)
  · simp [newG, upd_same, hw]
  · simp [newG, upd_same]
  · obtain ⟨c, h1, h2⟩ := hf.at_ i x j p hi hj; exact ⟨c, hp _ _ h1, h2.mono hle.hs⟩
theorem newG_own {G : Gh} {w w' : World} {O' : Tb} {id cap g n : Nat} {sh : Bool} {xs : List (List V)} (h : O' id = some (.arr g sh n xs)) : RV (newG G id w.heap.size cap) w' O' (.own id g) (.slice (some ⟨w.heap.size, 0, none⟩) xs.length cap) := by
  refine .any _ _ (.cell _ _ (.own _ _ _ _ rfl h (Nat.le_refl _) fun m len _ e => ?_))
  simp only [Ob.sig, Option.some.injEq, Prod.mk.injEq] at e
  simp [hdr, newG, upd_same, e.2]
def repK {α : Type} (x : α) : Nat → (List α → Pr) → Pr
  | 0, k => k []
  | n + 1, k => repK x n fun xs => k (x :: xs)
theorem repK_eq {α : Type} (x : α) (n : Nat) (k : List α → Pr) : repK x n k = k (List.replicate n x) := by
  induction n generalizing k with
  | zero => rfl
  | succ n ih => simp only [repK, ih, List.replicate_succ]
def prBuildSlice (P : Program) (nt : Nat) (o : Oper) (t : TypeId) (len : Nat) (parts : Array (Nat × Operand)) : Pr := match P.underlying t with
  | some (.slice e) => match len with
    | 0 => match parts.toList with
      | [] => szK P e fun n => match n with
        | 0 => .fail
        | n + 1 => newK nt o (fun g => .arr g false (n + 1) []) fun id g => .own id g
      | _ => .fail
    | len + 1 => zeroK P e fun l => szK P e fun n => match Nat.beq l.length n, Nat.ble ((len + 1) * n) 16777216, n with
      | true, true, n + 1 => shLK l fun l' => repK l' (len + 1) fun xs => fillS (n + 1) parts.toList xs fun ys => newK nt o (fun g => .arr g false (n + 1) ys) fun id g => .own id g
      | _, _, _ => .fail
  | _ => .fail
theorem flat_rep {σ : Nat → Nat → Value → Prop} {l : List V} {z : Array Value} {n len : Nat} (hl : l.length = n) (hz : z.size = n) (hc : ∀ (j : Nat) (p : V), l[j]? = some p → ∃ c, z.toList[j]? = some c ∧ Sh σ p c) :
    Flat σ n (List.replicate len l) ((Array.range (len * n)).map (z[· % z.size]!)).toList := by
  refine ⟨by simp, fun i x hi => ?_, fun i x j p hi hj => ?_⟩
  · rw [List.getElem?_replicate] at hi; split at hi
    · cases hi; exact hl
    · cases hi
  · rw [List.getElem?_replicate] at hi; split at hi
    · rename_i hil
      cases hi
      obtain ⟨c, h1, h2⟩ := hc j p hj
      have hjl : j < n := by rw [← hl]; exact (List.getElem?_eq_some_iff.1 hj).1
      refine ⟨c, ?_, h2⟩
      have hlt : i * n + j < len * n := mul_at hil hjl
      rw [Array.getElem?_toList, Array.getElem?_map, Array.getElem?_range, if_pos hlt]
      simp only [Option.map_some]
      have hmod : (i * n + j) % n = j := by rw [Nat.mul_comm, Nat.mul_add_mod, Nat.mod_eq_of_lt hjl]
      rw [hz, hmod, getElem!_pos z j (by omega)]
      rw [Array.getElem?_toList, Array.getElem?_eq_getElem (by omega)] at h1
      exact h1
    · cases hi
theorem prBuildSlice_ok [Env P] {t : TypeId} {len : Nat} {parts : Array (Nat × Operand)} (ho : o.op = .buildSlice t len parts) : OpS P nt o (prBuildSlice P nt o t len parts) := by
  intro E G s a w K next Q hnt hR hm hn
  unfold prBuildSlice at hm
  split at hm
  · rename_i e hu
    split at hm
    · split at hm
      · rename_i hp
        obtain ⟨ie, hie, hm⟩ := szK_spec hm
        split at hm
        · exact hm.elim
        · rename_i n hsz
          have hpe : parts = #[] := by simpa using hp
          have hr0 : Array.range 0 = #[] := Array.eq_empty_of_size_eq_zero (by simp)
          exact newK_ok (w' := { w with heap := w.heap.push (.cells #[] e) }) (b := .cells #[] e) (v := .slice (some ⟨w.heap.size, 0, none⟩) 0 0) (cap := 0) hnt hR hn hm
            (by simp [execOp, ho, hpe, Instr.buildSlice, run_underlying hu, run_sizeOf hie, Instr.fill, newRow, hr0]) (fun _ => rfl) rfl rfl rfl rfl
            (fun id s' _ hle g _ => newG_arr (fs := []) rfl hle ⟨by simp, fun i x hi => by simp at hi, fun i x j p hi => by simp at hi⟩ (Nat.succ_pos _) (Nat.le_refl _) (by simp) (by simp) false) (fun id g s' h => newG_own h)
      · exact hm.elim
    · rename_i len
      obtain ⟨ie, z, l, hie, hz, hzc, hm⟩ := zeroK_spec hm
      obtain ⟨ie', hie', hm⟩ := szK_spec hm
      rw [hie] at hie'; cases hie'
      split at hm
      · rename_i n hl hsmall hsz
        have hl := Nat.eq_of_beq_eq_true hl
        have hsmall := Nat.le_of_ble_eq_true hsmall
        have hsz : ie.size = n + 1 := hsz
        rw [hsz] at hsmall
        have hzs : z.cells.size = n + 1 := by rw [(hzc G w s.O).1, hl, ← hsz]
        obtain ⟨G1, s1, l', hR1, hle1, hV1, hm, hlen, hcells⟩ := shLK_ok (xs := z.cells.toList) hR (by simpa using (hzc G w s.O).1.symm) (fun j p hj => by simpa using (hzc G w s.O).2 j p hj) hm
        rw [repK_eq] at hm
        have hf := flat_rep (len := len + 1) (by rw [hlen]; simpa using hzs) hzs hcells
        obtain ⟨G2, s2, ys, cs', hR2, hle2, hm, h5, h6, h7⟩ := fillS_ok hR1 hm hf
        have h7 : ys.length = len + 1 := by simpa using h7
        have hrun := run_buildSlice (P := P) w t e (len + 1) (parts.map fun (i, x) => (i, a.eval x)) cs' ie z hu hie hz (by rw [hsz]; exact Nat.not_lt.2 hsmall) (by rw [hsz]; simp) (by rw [hsz, Array.toList_map]; exact h5)
        exact newK_ok (w' := w.alloc (.cells cs' e)) (b := .cells cs' e) (v := .slice (some ⟨w.heap.size, 0, none⟩) (len + 1) (len + 1)) (cap := len + 1) hnt hR2 hn hm
          (by simp only [execOp, ho, Sem.run_bind, hrun, Result.andThen_ok]; rfl) (fun _ => rfl) rfl rfl rfl rfl
          (fun id s' _ hle g _ => newG_arr rfl hle h6 (Nat.succ_pos _) (by omega) (by have := h6.sz; simp at this; rw [this, h7]; exact Nat.le_refl _) (fun j c h => by simpa using h) false) (fun id g s' h => by rw [← h7]; exact newG_own h)
      · exact hm.elim
  · exact hm.elim
end
end Go.PV
