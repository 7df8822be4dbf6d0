/- Part of the proof of LexJoin. -/
import Derived.Test.YtefolkppcdjbpaaDoorPv7
namespace Go.PV
open Go Go.RowKit
section
variable {P : Program} {nt : Nat} {o : Oper}
def genK (old : Option Ob) (k : Nat → Pr) : Pr := match old with
  | none => k 0
  | some (.box g _) => k (g + 1)
  | some (.arr g _ _ _) => k (g + 1)
theorem genK_spec {old : Option Ob} {k : Nat → Pr} {s : St} {K : St → Prop} (h : (genK old k).mwp s K) : ∃ g, (∀ o, old = some o → o.gen < g) ∧ (k g).mwp s K := by
  unfold genK at h
  split at h
  · exact ⟨0, fun o e => (by cases e), h⟩
  · exact ⟨_, fun o e => (by cases e; exact Nat.lt_succ_self _), h⟩
  · exact ⟨_, fun o e => (by cases e; exact Nat.lt_succ_self _), h⟩
/-- a new object: how it is made (told its number and time) -/
def newK (nt : Nat) (o : Oper) (mk : Nat → Ob) (h : Nat → Nat → V) : Pr := match o.dst with
  | none => .fail
  | some d => .getO (64 + d) fun old => genK old fun g => .putO (64 + d) (mk g) (setD nt (some d) (h (64 + d) g) .done)
theorem newK_ok [Env P] {E : Ent} {G : Gh} {s : St} {a : Act} {w w' : World} {K : St → Prop} {next : Act → World → Prop} {Q : Exit → Act → World → Prop} {mk : Nat → Ob} {hd : Nat → Nat → V} {b : Obj} {v : Value} {cap : Nat} (hnt : E.ok P nt) (hR : RG E G s a w)
    (hn : ∀ s' a' w', K s' → R E s' a' w' → next a' w') (h : (newK nt o mk hd).mwp s K) (hrun : (execOp a.eval o).run P w = .ok (.value v) w') (hmk : ∀ g, (mk g).gen = g)
    (hw : w'.heap = w.heap.push b) (hos : w'.os = w.os) (htp : w'.tape = w.tape) (hout : w'.output = w.output)
    (hro : ∀ (id : Nat) (s' : St), 64 ≤ id → Le G w s.O (newG G id w.heap.size cap) w' s'.O → ∀ g, s'.O id = some (mk g) → RO (newG G id w.heap.size cap) w' s'.O id (mk g))
    (hv : ∀ (id g : Nat) (s' : St), s'.O id = some (mk g) → RV (newG G id w.heap.size cap) w' s'.O (hd id g) v) : o.wp P a w next Q := by
  unfold newK at h
  split at h
  · exact h.elim
  · rename_i d hd'
    simp only [Pr.mwp] at h
    obtain ⟨g, hg, h⟩ := genK_spec h
    simp only [Pr.mwp] at h
    have hg' : ∀ o, s.O (64 + d) = some o → o.gen < (mk g).gen := fun o e => by rw [hmk]; exact hg o e
    have hle := newG_le (G := G) (s := s) (cap := cap) hw hg'
    have hO : (s.putO (64 + d) (mk g)).O (64 + d) = some (mk g) := by rw [St.O_putO, if_pos rfl]
    have hR' : RG E _ (s.putO (64 + d) (mk g)) a w' := newG_rg (id := 64 + d) hR (by cases e : E.bx (64 + d) with | none => rfl | some b => have := (hR.fr.bx _ b e).1; omega) hw hos htp hout hg' (hro (64 + d) _ (by omega) hle g hO)
    obtain ⟨s', hk, hR2⟩ := setD_put hnt hR' (hv _ _ _ hO) h
    exact opwp_value hrun (hn _ _ _ hk (by rw [hd']; exact ⟨_, hR2⟩))
theorem newG_box {G : Gh} {w w' : World} {O O' : Tb} {id cap g : Nat} {cells : List V} {cs : Array Value} {T : TypeId} (hw : w'.heap = w.heap.push (.cells cs T (0, 0))) (hle : Le G w O (newG G id w.heap.size cap) w' O') (hc : Cells (RC G w O) cells cs) :
    RO (newG G id w.heap.size cap) w' O' id (.box g cells) := by
  refine .box _ _ cs T ?_ ?_ (hc.mono fun _ _ => RC.mono hle)
  · simp [newG, upd_same, hw]
  · simp [newG, upd_same]
theorem newG_ptr {G : Gh} {w w' : World} {O' : Tb} {id cap g : Nat} {cells : List V} (h : O' id = some (.box g cells)) : RV (newG G id w.heap.size cap) w' O' (.ptr id g 0) (.pointer (some ⟨w.heap.size, 0, none⟩)) :=
  .any _ _ (.cell _ _ (.ptr _ _ _ _ _ rfl h (Nat.le_refl _) fun _ _ => by simp [newG, upd_same]))
def zeroK (P : Program) (t : TypeId) (k : List V → Pr) : Pr := match P.toTables.info? t with
  | none => .fail
  | some i => match i.zero with
    | none => .fail
    | some z => match z.cells.toList.all (·.oneCell') with
      | true => ofCsK z.cells.toList k
      | false => .fail
theorem zeroK_spec {t : TypeId} {k : List V → Pr} {s : St} {K : St → Prop} (h : (zeroK P t k).mwp s K) : ∃ i z l, P.toTables.info? t = some i ∧ i.zero = some z ∧ (∀ G w O, Cells (RC G w O) l z.cells) ∧ (k l).mwp s K := by
  unfold zeroK at h
  split at h
  · exact h.elim
  · rename_i i hi
    split at h
    · exact h.elim
    · rename_i z hz
      split at h
      · rename_i h1
        rw [ofCsK_eq] at h
        refine ⟨i, z, _, hi, hz, fun G w O => ⟨by simp, fun j p hj => ?_⟩, h⟩
        rw [List.getElem?_map] at hj
        cases hc : z.cells.toList[j]? with
        | none => rw [hc] at hj; cases hj
        | some c =>
          rw [hc] at hj; simp only [Option.map_some, Option.some.injEq] at hj; subst hj
          exact ⟨c, by simpa using hc, ofC_sound c (List.all_eq_true.1 h1 c (List.mem_of_getElem? hc))⟩
      · exact h.elim
def prAlloc (P : Program) (nt : Nat) (o : Oper) (t : TypeId) : Pr := zeroK P t fun l => newK nt o (fun g => .box g l) fun id g => .ptr id g 0
theorem prAlloc_ok [Env P] {t : TypeId} (ho : o.op = .alloc t) : OpS P nt o (prAlloc P nt o t) := by
  intro E G s a w K next Q hnt hR hm hn
  obtain ⟨i, z, l, h1, h2, h3, hm⟩ := zeroK_spec hm
  exact newK_ok (w' := { w with heap := w.heap.push (.cells z.cells t) }) (b := .cells z.cells t) (v := .pointer (some ⟨w.heap.size, 0, none⟩)) (cap := 0) hnt hR hn hm
    (by simp [execOp, ho, Instr.alloc, zeroValue, typeInfo, h1, h2, newVar, newRow]) (fun _ => rfl) rfl rfl rfl rfl
    (fun id s' _ hle g _ => newG_box rfl hle (h3 _ _ _)) (fun id g s' h => newG_ptr h)
def prBox (nt : Nat) (o : Oper) (x : Operand) : Pr := rdV x fun v => cellsK v fun l => newK nt o (fun g => .box g l) fun id g => .ptr id g 0
theorem prBox_ok [Env P] {t : TypeId} {x : Operand} (ho : o.op = .box t x) : OpS P nt o (prBox nt o x) := by
  intro E G s a w K next Q hnt hR hm hn
  simp only [prBox, rdV_mwp] at hm
  obtain ⟨l, hm, h1⟩ := cellsK_ok (ev_sound hR x) hm
  exact newK_ok (w' := { w with heap := w.heap.push (.cells (a.eval x).cells t) }) (b := .cells (a.eval x).cells t) (v := .pointer (some ⟨w.heap.size, 0, none⟩)) (cap := 0) hnt hR hn hm
    (by simp [execOp, ho, Instr.box, newVar, newRow]) (fun _ => rfl) rfl rfl rfl rfl
    (fun id s' _ hle g _ => newG_box rfl hle h1) (fun id g s' h => newG_ptr h)
/-- cells laid over cells -/
def lay {α : Type} (l : List α) (off : Nat) (m : List α) : List α := l.take off ++ m ++ l.drop (off + m.length)
theorem lay_get {α : Type} (l m : List α) (off j : Nat) (h : off + m.length ≤ l.length) : (lay l off m)[j]? = if off ≤ j ∧ j < off + m.length then m[j - off]? else l[j]? := by
  unfold lay
  have h1 : (l.take off).length = off := by simp; omega
  rw [List.append_assoc, List.getElem?_append, h1]
  split
  · rw [List.getElem?_take, if_pos (by assumption), if_neg (by omega)]
  · rw [List.getElem?_append]
    split
    · rw [if_pos (by omega)]
    · rw [if_neg (by omega), List.getElem?_drop]; congr 1; omega
theorem lay_length {α : Type} (l m : List α) (off : Nat) (h : off + m.length ≤ l.length) : (lay l off m).length = l.length := by unfold lay; simp; omega
theorem Cells.lay {R : V → Value → Prop} {l m : List V} {cs ds : Array Value} {off : Nat} (h : Cells R l cs) (k : Cells R m ds) (hle : off + m.length ≤ l.length) : Cells R (lay l off m) (PV.lay cs.toList off ds.toList).toArray := by
  have e1 : cs.toList.length = l.length := by simpa using h.1
  have e2 : ds.toList.length = m.length := by simpa using k.1
  refine ⟨by rw [List.size_toArray, lay_length _ _ _ (by omega), lay_length _ _ _ hle, e1], fun j p hj => ?_⟩
  rw [lay_get _ _ _ _ hle] at hj
  rw [List.getElem?_toArray, lay_get _ _ _ _ (by omega), e2]
  split at hj
  · rename_i hc
    rw [if_pos hc]
    obtain ⟨c, h1, h2⟩ := k.2 _ _ hj; exact ⟨c, by simpa using h1, h2⟩
  · rename_i hc
    rw [if_neg hc]
    obtain ⟨c, h1, h2⟩ := h.2 _ _ hj; exact ⟨c, by simpa using h1, h2⟩
def layK (l : List V) (off : Nat) (m : List V) (k : List V → Pr) : Pr := match Nat.ble (off + m.length) l.length with
  | true => force (l.take off ++ m ++ l.drop (off + m.length)) k
  | false => .fail
theorem layK_spec {l m : List V} {off : Nat} {k : List V → Pr} {s : St} {K : St → Prop} (h : (layK l off m k).mwp s K) : off + m.length ≤ l.length ∧ (k (lay l off m)).mwp s K := by
  unfold layK at h
  split at h
  · rename_i h1; rw [force_eq] at h; exact ⟨Nat.le_of_ble_eq_true h1, h⟩
  · exact h.elim
theorem run_storeAt {t : TypeId} {i : TypeInfo} {b off : Nat} {x : Value} {cur : Array Value} {T : TypeId} {w : World} (hi : P.toTables.info? t = some i) (hsz : x.cells.size = i.size) (hb : w.heap[b]? = some (.cells cur T (0, 0))) (hle : off + x.cells.size ≤ cur.size) (h1 : ∀ v ∈ x.cells.toList, v.oneCell' = true) :
    (Instr.storeAt t (.pointer (some ⟨b, off, none⟩)) x).run P w = .ok () (w.setRow b (lay cur.toList off x.cells.toList).toArray) := by
  have h := run_storeCells_at P b off T x.cells.toList 0 cur w hb (by simpa using hle) h1
  simp only [Nat.add_zero] at h
  simp [Instr.storeAt, Instr.sureAddr, storeVar, run_sizeOf hi, hsz, h, lay]
theorem setRow_heap_ne (w : World) (b : Nat) (cs : Array Value) : ∀ k, k ≠ b → (w.setRow b cs).heap[k]? = w.heap[k]? := fun k h => setRow_other w b k cs h
def prStore (P : Program) (nt : Nat) (o : Oper) (t : TypeId) (x y : Operand) : Pr := rdV x fun p => rdV y fun v => cellsK v fun l => szK P t fun n => match Nat.beq l.length n with
  | false => .fail
  | true => match p with
    | .ptr id gen off => boxK id gen fun cells => layK cells off l fun cells' => .putO id (.box gen cells') (setD nt o.dst (.tup []) .done)
    | .elp id gen i off => shLK l fun m => arrK id gen fun sh c xs => match sh with
      | true => .fail
      | false => .ex (List V) (fun z => xs[i]? = some z) fun z => layK z off m fun z' => .putO id (.arr gen false c (xs.set i z')) (setD nt o.dst (.tup []) .done)
    | _ => .fail
theorem RV.undef {G : Gh} {w : World} {O : Tb} : RV G w O (.tup []) undef := .tup [] #[] ⟨rfl, fun j p hj => by simp at hj⟩
theorem Cells.one {G : Gh} {w : World} {O : Tb} {l : List V} {cs : Array Value} (h : Cells (RC G w O) l cs) : ∀ v ∈ cs.toList, v.oneCell' = true := by
  intro v hv
  obtain ⟨j, hj⟩ := List.mem_iff_getElem?.1 hv
  have hlt : j < l.length := by have := (List.getElem?_eq_some_iff.1 hj).1; rw [Array.length_toList, h.1] at this; exact this
  obtain ⟨c, h1, h2⟩ := h.2 j _ (List.getElem?_eq_getElem hlt)
  rw [← Array.getElem?_toList, hj] at h1; cases h1; exact h2.one
theorem prStore_ok [Env P] {t : TypeId} {x y : Operand} (ho : o.op = .store t x y) : OpS P nt o (prStore P nt o t x y) := by
  intro E G s a w K next Q hnt hR hm hn
  simp only [prStore, rdV_mwp] at hm
  have hx := ev_sound hR x
  obtain ⟨l, hm, h1⟩ := cellsK_ok (ev_sound hR y) hm
  obtain ⟨i, hi, hm⟩ := szK_spec hm
  split at hm
  · exact hm.elim
  rename_i hsz
  have hsz := Nat.eq_of_beq_eq_true hsz
  have run : ∀ {b off : Nat} {cur : Array Value} {T : TypeId}, a.eval x = .pointer (some ⟨b, off, none⟩) → w.heap[b]? = some (.cells cur T (0, 0)) → off + l.length ≤ cur.size →
      (execOp a.eval o).run P w = .ok .skip (w.setRow b (lay cur.toList off (a.eval y).cells.toList).toArray) := by
    intro b off cur T e hb hle
    have := run_storeAt (P := P) (t := t) (x := a.eval y) hi (by rw [h1.1, hsz]) hb (by rw [h1.1]; exact hle) h1.one
    simp [execOp, ho, e, this]
  split at hm
  · rename_i id gen off e1
    rw [e1] at hx
    obtain ⟨cells, h2, hm⟩ := boxK_spec hm
    obtain ⟨hle, hm⟩ := layK_spec hm
    simp only [Pr.mwp] at hm
    cases hR.ob id _ h2 with
    | box _ _ cs T hb hw hc =>
      have hst : ∀ off' c, stab G w (G.blk id) off' c → off' < 0 ∧ (w.setRow (G.blk id) (lay cs.toList off (a.eval y).cells.toList).toArray).cell? ⟨G.blk id, off', none⟩ = some c := fun off' c h => by
        have := h.1 0 (by rw [hw]); omega
      have hlim : limG G id 0 = G := by
        have : upd G.own (G.blk id) ⟨some id, some 0⟩ = G.own := by funext j; unfold upd; split <;> simp_all
        simp [limG, this]
      have hne := setRow_heap_ne w (G.blk id) (lay cs.toList off (a.eval y).cells.toList).toArray
      have hle' := limG_le (G := G) (s := s) (o' := .box gen (lay cells off l)) h2 hne hst (.inr ⟨rfl, rfl⟩)
      rw [hlim] at hle'
      have hR' := limG_rg (o' := .box gen (lay cells off l)) hR h2 (.inr ⟨gen, _, rfl⟩) (.inr rfl) hne (by simp) rfl rfl rfl hst (.inr ⟨rfl, rfl⟩) (by
        rw [hlim]
        exact .box _ _ _ T (setRow_heap w _ _ _ T _ hb) hw ((hc.lay h1 hle).mono fun _ _ => RC.mono hle'))
      obtain ⟨s', hk, hR2⟩ := setD_put hnt hR' .undef hm
      exact opwp_skip (run (hx.ptr_inv h2) hb (by rw [hc.1]; exact hle)) (hn _ _ _ hk ⟨_, hR2⟩)
  · rename_i id gen ix off e1
    rw [e1] at hx
    obtain ⟨G1, s1, m, hR1, hle1, hV1, hm, hlen, hcells⟩ := shLK_ok (xs := (a.eval y).cells.toList) hR (by simpa using h1.1.symm) (fun j p hj => by simpa using h1.2 j p hj) hm
    have hx := hx.mono hle1
    obtain ⟨sh, c, xs, h2, hm⟩ := arrK_spec hm
    split at hm
    · exact hm.elim
    · obtain ⟨z, hz, hm⟩ := hm
      obtain ⟨hle, hm⟩ := layK_spec hm
      simp only [Pr.mwp] at hm
      obtain ⟨hnil, hx⟩ := hx.elp_inv h2
      have hml : m.length = l.length := by rw [hlen]; simpa using h1.1
      cases hR1.ob id _ h2 with
      | nil => simp at hz
      | arr _ _ _ _ cs T lim hn' hb hw h0 hl hcap hzs hs ht hh =>
        have hzl := hl _ _ hz
        have hlim0 := hs rfl
        subst hlim0
        have hi1 := (List.getElem?_eq_some_iff.1 hz).1
        have hroom : ix * c + off + m.length ≤ cs.size := by
          have : (ix + 1) * c ≤ G1.cap id * c := Nat.mul_le_mul_right c (by omega)
          rw [Nat.add_mul, Nat.one_mul] at this; omega
        have hds : (a.eval y).cells.toList.length = m.length := hlen.symm
        have hst : ∀ off' c', stab G1 w (G1.blk id) off' c' → off' < 0 ∧ (w.setRow (G1.blk id) (lay cs.toList (ix * c + off) (a.eval y).cells.toList).toArray).cell? ⟨G1.blk id, off', none⟩ = some c' := fun off' c' h => by
          have := h.1 0 (by rw [hw]); omega
        have hlim : limG G1 id 0 = G1 := by
          have : upd G1.own (G1.blk id) ⟨some id, some 0⟩ = G1.own := by funext j; unfold upd; split <;> simp_all
          simp [limG, this]
        have hne := setRow_heap_ne w (G1.blk id) (lay cs.toList (ix * c + off) (a.eval y).cells.toList).toArray
        have hg : (Ob.arr gen false c xs).gen < (Ob.arr gen false c (xs.set ix (lay z off m))).gen ∨ (Ob.arr gen false c xs).gen = (Ob.arr gen false c (xs.set ix (lay z off m))).gen ∧ (Ob.arr gen false c xs).sig = (Ob.arr gen false c (xs.set ix (lay z off m))).sig := .inr ⟨rfl, by simp [Ob.sig]⟩
        have hle' := limG_le (G := G1) (s := s1) (o' := .arr gen false c (xs.set ix (lay z off m))) h2 hne hst hg
        rw [hlim] at hle'
        have hR' := limG_rg (o' := .arr gen false c (xs.set ix (lay z off m))) hR1 h2 (.inl (hR1.arr_bx h2)) (.inl hn') hne (by simp) rfl rfl rfl hst hg (by
          rw [hlim]
          refine .arr _ _ _ _ _ T 0 hn' (setRow_heap w _ _ _ T _ hb) hw h0 (fun i x hx => ?_) (by simpa using hcap) ?_ (fun _ => rfl) (Nat.zero_le _) (fun i x j p hi hj => ?_)
          · rw [List.getElem?_set] at hx
            split at hx
            · rename_i e
              subst e
              cases hx; rw [lay_length _ _ _ hle]; exact hzl
            · exact hl _ _ hx
          · rw [List.size_toArray, lay_length _ _ _ (by rw [hds]; simpa using hroom)]; simpa using hzs
          · rw [List.getElem?_toArray, lay_get _ _ _ _ (by rw [hds]; simpa using hroom), hds]
            rw [List.getElem?_set] at hi
            split at hi
            · rename_i e
              subst e
              cases hi
              rw [lay_get _ _ _ _ hle] at hj
              split at hj
              · rename_i hc
                rw [if_pos (by omega)]
                obtain ⟨v, h3, h4⟩ := hcells _ _ hj
                exact ⟨v, by rw [show ix * c + j - (ix * c + off) = j - off by omega]; exact h3, h4.mono hle'.hs⟩
              · rename_i hc
                have hjl := (List.getElem?_eq_some_iff.1 hj).1
                rw [if_neg (by omega)]
                obtain ⟨v, h3, h4⟩ := hh _ _ _ _ hz hj
                exact ⟨v, by simpa using h3, h4.mono hle'.hs⟩
            · rename_i hne'
              have hjl : j < c := by rw [← hl _ _ hi]; exact (List.getElem?_eq_some_iff.1 hj).1
              have hfar : ¬ (ix * c + off ≤ i * c + j ∧ i * c + j < ix * c + off + m.length) := by
                intro ⟨q1, q2⟩
                rcases Nat.lt_or_gt_of_ne hne' with hlt | hgt
                · have : (ix + 1) * c ≤ i * c := Nat.mul_le_mul_right c hlt
                  rw [Nat.add_mul, Nat.one_mul] at this; omega
                · have : (i + 1) * c ≤ ix * c := Nat.mul_le_mul_right c hgt
                  rw [Nat.add_mul, Nat.one_mul] at this; omega
              rw [if_neg hfar]
              obtain ⟨v, h3, h4⟩ := hh _ _ _ _ hi hj
              exact ⟨v, by simpa using h3, h4.mono hle'.hs⟩)
        obtain ⟨s', hk, hR2⟩ := setD_put hnt hR' .undef hm
        exact opwp_skip (run hx hb (by rw [← hml]; exact hroom)) (hn _ _ _ hk ⟨_, hR2⟩)
  · exact hm.elim
end
end Go.PV
