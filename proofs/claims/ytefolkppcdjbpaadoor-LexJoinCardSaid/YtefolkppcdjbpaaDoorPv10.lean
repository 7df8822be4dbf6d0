/- Part of the proof of LexJoin. -/
import Derived.Test.YtefolkppcdjbpaaDoorPv9
namespace Go.PV
open Go Go.RowKit
section
variable {P : Program} {nt : Nat} {o : Oper}
theorem Flat.append {σ : Nat → Nat → Value → Prop} {n : Nat} {xs ys : List (List V)} {cs ds : List Value} (h : Flat σ n xs cs) (k : Flat σ n ys ds) : Flat σ n (xs ++ ys) (cs ++ ds) := by
  refine ⟨by simp [h.sz, k.sz, Nat.add_mul], fun i x hi => ?_, fun i x j p hi hj => ?_⟩
  · rw [List.getElem?_append] at hi; split at hi
    · exact h.ln i x hi
    · exact k.ln _ x hi
  · rw [List.getElem?_append] at hi; split at hi
    · rename_i hil
      obtain ⟨c, h1, h2⟩ := h.at_ i x j p hi hj
      refine ⟨c, ?_, h2⟩
      rw [List.getElem?_append_left (List.getElem?_eq_some_iff.1 h1).1]; exact h1
    · rename_i hil
      obtain ⟨c, h1, h2⟩ := k.at_ _ x j p hi hj
      refine ⟨c, ?_, h2⟩
      have e : i * n + j = cs.length + ((i - xs.length) * n + j) := by
        rw [h.sz]
        have : xs.length * n + (i - xs.length) * n = i * n := by rw [← Nat.add_mul]; congr 1; omega
        omega
      rw [e, List.getElem?_append_right (by omega), show cs.length + ((i - xs.length) * n + j) - cs.length = (i - xs.length) * n + j by omega]; exact h1
theorem Flat.nil {σ : Nat → Nat → Value → Prop} {n : Nat} : Flat σ n [] [] := ⟨by simp, fun i x hi => by simp at hi, fun i x j p hi => by simp at hi⟩
theorem Flat.one {σ : Nat → Nat → Value → Prop} {n : Nat} {xs : List (List V)} {cs : List Value} (h : Flat σ n xs cs) (h0 : 0 < n) : ∀ v ∈ cs, v.oneCell' = true := by
  intro v hv
  obtain ⟨k, hk⟩ := List.mem_iff_getElem?.1 hv
  have hlt : k < xs.length * n := by rw [← h.sz]; exact (List.getElem?_eq_some_iff.1 hk).1
  have hi : k / n < xs.length := (Nat.div_lt_iff_lt_mul h0).2 hlt
  have hj : k % n < n := Nat.mod_lt _ h0
  have hx := List.getElem?_eq_getElem hi
  have hxl := h.ln _ _ hx
  obtain ⟨c, h1, h2⟩ := h.at_ _ _ (k % n) _ hx (List.getElem?_eq_getElem (by omega))
  rw [Nat.div_add_mod' k n, hk] at h1; cases h1; exact h2.one
/-- where a slice's elements lie -/
def Lies (G : Gh) (w : World) (n : Nat) (ys : List (List V)) (v : Value) : Prop :=
  ((∃ a cap, v = .slice a 0 cap) ∧ ys = []) ∨ ∃ b off cap fs, v = .slice (some ⟨b, off, none⟩) ys.length cap ∧ ys.length ≤ cap ∧ Flat (stab G w) n ys fs ∧ ∀ (j : Nat) (c : Value), fs[j]? = some c → w.cell? ⟨b, off + j, none⟩ = some c
theorem lies_of {G : Gh} {w : World} {n : Nat} {ys : List (List V)} {b off cap : Nat} (h0 : 0 < n) (hl : ∀ (i : Nat) (x : List V), ys[i]? = some x → x.length = n) (hc : ys.length ≤ cap)
    (h : ∀ (i : Nat) (x : List V) (j : Nat) (p : V), ys[i]? = some x → x[j]? = some p → ∃ c, w.cell? ⟨b, off + (i * n + j), none⟩ = some c ∧ Sh (stab G w) p c) : Lies G w n ys (.slice (some ⟨b, off, none⟩) ys.length cap) := by
  refine .inr ⟨b, off, cap, (List.range (ys.length * n)).map fun k => (w.cell? ⟨b, off + k, none⟩).getD undef, rfl, hc, ⟨by simp, hl, fun i x j p hi hj => ?_⟩, fun k c hk => ?_⟩
  · obtain ⟨c, h1, h2⟩ := h i x j p hi hj
    have hlt : i * n + j < ys.length * n := mul_at (List.getElem?_eq_some_iff.1 hi).1 (by rw [← hl i x hi]; exact (List.getElem?_eq_some_iff.1 hj).1)
    exact ⟨c, by simp [hlt, h1], h2⟩
  · rw [List.getElem?_map] at hk
    have hlt : k < ys.length * n := by
      rcases Nat.lt_or_ge k (ys.length * n) with h1 | h1
      · exact h1
      · rw [List.getElem?_eq_none (by simpa using h1)] at hk; cases hk
    rw [List.getElem?_range hlt] at hk
    simp only [Option.map_some, Option.some.injEq] at hk
    have hi : k / n < ys.length := (Nat.div_lt_iff_lt_mul h0).2 hlt
    have hj : k % n < n := Nat.mod_lt _ h0
    have hx := List.getElem?_eq_getElem hi
    have hxl := hl _ _ hx
    obtain ⟨c', h1, h2⟩ := h _ _ (k % n) _ hx (List.getElem?_eq_getElem (by omega))
    rw [Nat.div_add_mod'] at h1
    rw [h1] at hk ⊢; simpa using hk
def itemsK (n : Nat) (v : V) (k : List (List V) → Pr) : Pr := match v with
  | .nil => k []
  | .sl m xs => match Nat.beq m n with
    | true => k xs
    | false => .fail
  | .own id gen => arrK id gen fun _ m xs => match Nat.beq m n with
    | true => k xs
    | false => .fail
  | _ => .fail
theorem RG.lies {E : Ent} {G : Gh} {s : St} {a : Act} {w : World} (hR : RG E G s a w) {id gen n : Nat} {sh : Bool} {xs : List (List V)} (h : s.O id = some (.arr gen sh n xs)) : Lies G w n xs (hdr G id xs.length) := by
  cases hR.ob id _ h with
  | nil _ _ _ hn => rw [hdr, hn]; exact .inl ⟨⟨_, _, rfl⟩, rfl⟩
  | arr _ _ _ _ cs T lim hn hb hw h0 hl hc hz hs ht hh =>
    rw [hdr, hn]
    refine lies_of h0 hl hc fun i x j p hi hj => ?_
    obtain ⟨c, h1, h2⟩ := hh i x j p hi hj
    exact ⟨c, by rw [Nat.zero_add, cell_of_row w _ _ cs T _ hb]; exact h1, h2⟩
theorem itemsK_spec {E : Ent} {G : Gh} {s : St} {a : Act} {w : World} {K : St → Prop} {n : Nat} {v : V} {x : Value} {k : List (List V) → Pr} (hR : RG E G s a w) (hx : RV G w s.O v x) (h : (itemsK n v k).mwp s K) : ∃ ys, (k ys).mwp s K ∧ Lies G w n ys x := by
  unfold itemsK at h
  split at h
  · exact ⟨[], h, .inl ⟨⟨_, _, hx.nil_inv⟩, rfl⟩⟩
  · rename_i m xs
    split at h
    · rename_i hn
      have hn := Nat.eq_of_beq_eq_true hn; subst hn
      refine ⟨xs, h, ?_⟩
      have := hx.sl_inv
      cases this with
      | sl0 _ a c => exact .inl ⟨⟨a, c, rfl⟩, rfl⟩
      | sl _ _ b off cap c h0 hl hc hs hh =>
        exact lies_of h0 hl hc fun i x j p hi hj => ⟨c i j, by rw [← Nat.add_assoc]; exact (hs i x j p hi hj).2, hh i x j p hi hj⟩
    · exact h.elim
  · rename_i id gen
    obtain ⟨sh, m, xs, h1, h2⟩ := arrK_spec h
    clear h
    split at h2
    · rename_i hn
      have hn := Nat.eq_of_beq_eq_true hn; subst hn
      exact ⟨xs, h2, by rw [hx.own_inv h1]; exact hR.lies h1⟩
    · exact h2.elim
  · exact h.elim
/-- an object that is nil -/
def nilG (G : Gh) (id : Nat) : Gh := { G with isnil := upd G.isnil id true }
theorem nilG_le {G : Gh} {w : World} {s : St} {id : Nat} {o' : Ob} (hg : ∀ o, s.O id = some o → o.gen < o'.gen) : Le G w s.O (nilG G id) w (s.putO id o').O where
  hs _ _ _ h := h
  hk i o hi := by
    rw [St.O_putO]
    by_cases e : id = i
    · subst e; exact ⟨o', if_pos rfl, .inl (hg o hi)⟩
    · refine ⟨o, by rw [if_neg e]; exact hi, .inr ⟨rfl, rfl, rfl, fun _ => ⟨rfl, ?_⟩⟩⟩
      simp only [nilG]; rw [upd_ne _ _ (Ne.symm e)]
theorem nilG_rg {E : Ent} {G : Gh} {s : St} {a : Act} {w : World} {id g n : Nat} {sh : Bool} (hR : RG E G s a w) (hid : E.bx id = none) (hg : ∀ o, s.O id = some o → o.gen < g) : RG E (nilG G id) (s.putO id (.arr g sh n [])) a w := by
  have hle : Le G w s.O (nilG G id) w (s.putO id (.arr g sh n [])).O := nilG_le hg
  refine hR.upd (fun t => rfl) hle (fun i o hi => ?_) ⟨hR.fr.os, hR.fr.tape, hR.fr.output, hR.fr.size, hR.fr.st, hR.fr.im, hR.fr.bx⟩ (putO_box (.inl hid))
  rw [St.O_putO] at hi
  split at hi
  · rename_i e; subst e; cases hi; exact .nil _ _ _ (by simp [nilG, upd_same])
  · rename_i e
    refine (hR.ob i o hi).mono hle rfl rfl ?_ (fun _ => ⟨rfl, rfl⟩)
    simp only [nilG]; rw [upd_ne _ _ (Ne.symm e)]
/-- append onto nothing, as a law of memory -/
theorem append_nil_run {t ty e : TypeId} {i : TypeInfo} {z : Value} {n : Nat} {G : Gh} {w : World} {ys : List (List V)} {y : Value} (ht : P.underlying t = some (.slice e)) (hi : P.toTables.info? e = some i) (hz : i.zero = some z) (hsz : i.size = n) (hzs : z.cells.size = n) (hy : Lies G w n ys y) (hb : ys.length * i.bytes ≤ 140737488355328) (h63 : ys.length ≤ 9223372036854775807) :
    (ys = [] ∧ (Builtin.append_ #[t, t] ty #[.slice none 0 0, y]).run P w = .ok (.slice none 0 0) w) ∨
    ∃ cap cs fs w', (Builtin.append_ #[t, t] ty #[.slice none 0 0, y]).run P w = .ok (.slice (some ⟨w.heap.size, 0, none⟩) ys.length cap) w' ∧ w'.heap = w.heap.push (.cells cs e (0, 0)) ∧ w'.os = w.os ∧ w'.tape = w.tape ∧ w'.output = w.output ∧
      Flat (stab G w) n ys fs ∧ ys.length ≤ cap ∧ cap * n ≤ cs.size ∧ ∀ (j : Nat) (c : Value), fs[j]? = some c → cs[j]? = some c := by
  have none_run : ∀ {b : Option Addr} {c : Nat}, (Builtin.append_ #[t, t] ty #[.slice none 0 0, .slice b 0 c]).run P w = .ok (.slice none 0 0) w := by
    intro b c
    cases b with
    | none => simp [Builtin.append_, run_underlying ht, Go.sizeOf, typeInfo, hi, Builtin.lenOf, run_firstCells_none]
    | some ad =>
      have := run_firstCells_some (P := P) w i.size 0 ad 0 c [] (by simp) (by simp)
      simp [Builtin.append_, run_underlying ht, Go.sizeOf, typeInfo, hi, Builtin.lenOf, this]
  rcases hy with ⟨⟨_, _, rfl⟩, rfl⟩ | ⟨b, off, cap, fs, rfl, hcap, hf, hc⟩
  · exact .inl ⟨rfl, none_run⟩
  · by_cases h0 : ys = []
    · subst h0; exact .inl ⟨rfl, none_run⟩
    · have hpos : 0 < ys.length := List.length_pos_iff.2 h0
      have hr := run_append_nil (P := P) w t ty e i z ht hi hz ⟨b, off, none⟩ ys.length cap fs (by rw [hf.sz, hsz]) (fun j v hj => by rw [Addr.add_none]; exact hc j v hj) hpos (by omega) (by omega)
      refine .inr ⟨_, _, fs, _, hr, rfl, rfl, rfl, rfl, hf, grownCap_ge w ys.length 0 e, ?_, fun j c hj => ?_⟩
      · have h1 := grownCap_ge w ys.length 0 e
        rw [Array.size_append, List.size_toArray, hf.sz, size_zeroCells, hzs, ← Nat.add_mul]
        exact Nat.mul_le_mul_right n (by omega)
      · rw [Array.getElem?_append_left (by simpa using (List.getElem?_eq_some_iff.1 hj).1)]; simpa using hj
theorem append_room {t ty e : TypeId} {i : TypeInfo} {T : TypeId} {w : World} (ht : P.underlying t = some (.slice e)) (hi : P.toTables.info? e = some i)
    {g sLen sCap : Nat} {cur : Array Value} (hg : w.heap[g]? = some (.cells cur T (0, 0)))
    {a : Addr} {m c : Nat} {news : List Value} (hl : news.length = m * i.size) (hnews : ∀ (j : Nat) (u : Value), news[j]? = some u → w.cell? (a.add j) = some u) (h1 : ∀ u ∈ news, u.oneCell' = true)
    (hroom : sLen + m ≤ sCap) (hfit : sLen * i.size + news.length ≤ cur.size) :
    (Builtin.append_ #[t, t] ty #[.slice (some ⟨g, 0, none⟩) sLen sCap, .slice (some a) m c]).run P w =
      .ok (.slice (some ⟨g, 0, none⟩) (sLen + m) sCap) (w.setRow g (lay cur.toList (sLen * i.size) news).toArray) := by
  have hf := run_firstCells_some (P := P) w i.size m a m c news hl hnews
  have hst := run_storeCells_at P g (sLen * i.size) T news 0 cur w hg (by simpa using hfit) h1
  simp only [Nat.add_zero] at hst
  simp [Builtin.append_, run_underlying ht, Go.sizeOf, typeInfo, hi, Builtin.lenOf, hroom, hf, Addr.add_none, hst, lay]
theorem append_some_run {T t ty e : TypeId} {i : TypeInfo} {z : Value} {n : Nat} {G : Gh} {w : World} {xs ys : List (List V)} {y : Value} {blk cap : Nat} {cs : Array Value} {fs : List Value} (ht : P.underlying t = some (.slice e)) (hi : P.toTables.info? e = some i) (hz : i.zero = some z) (hsz : i.size = n) (hzs : z.cells.size = n) (h0 : 0 < n) (hy : Lies G w n ys y)
    (hb : (xs.length + ys.length) * i.bytes ≤ 140737488355328) (h63 : xs.length + ys.length ≤ 9223372036854775807) (hblk : w.heap[blk]? = some (.cells cs T (0, 0))) (hxs : Flat (stab G w) n xs fs) (hfs : ∀ (j : Nat) (c : Value), fs[j]? = some c → cs[j]? = some c) (hcap : xs.length ≤ cap) (hcz : cap * n ≤ cs.size) :
    (xs.length + ys.length ≤ cap ∧ ∃ ds, Flat (stab G w) n ys ds ∧ (Builtin.append_ #[t, t] ty #[.slice (some ⟨blk, 0, none⟩) xs.length cap, y]).run P w = .ok (.slice (some ⟨blk, 0, none⟩) (xs.length + ys.length) cap) (w.setRow blk (lay cs.toList (xs.length * n) ds).toArray)) ∨
    ∃ cap' cs' gs w', (Builtin.append_ #[t, t] ty #[.slice (some ⟨blk, 0, none⟩) xs.length cap, y]).run P w = .ok (.slice (some ⟨w.heap.size, 0, none⟩) (xs.length + ys.length) cap') w' ∧ w'.heap = w.heap.push (.cells cs' e (0, 0)) ∧ w'.os = w.os ∧ w'.tape = w.tape ∧ w'.output = w.output ∧
      Flat (stab G w) n (xs ++ ys) gs ∧ (xs ++ ys).length ≤ cap' ∧ cap' * n ≤ cs'.size ∧ ∀ (j : Nat) (c : Value), gs[j]? = some c → cs'[j]? = some c := by
  have self : w.setRow blk (lay cs.toList (xs.length * n) []).toArray = w := by
    have : lay cs.toList (xs.length * n) [] = cs.toList := by simp [lay]
    rw [this]; simpa using setRow_self w blk cs T (0, 0) hblk
  have none_run : ∀ {a : Option Addr} {c : Nat}, ys = [] → (Builtin.append_ #[t, t] ty #[.slice (some ⟨blk, 0, none⟩) xs.length cap, .slice a 0 c]).run P w = .ok (.slice (some ⟨blk, 0, none⟩) xs.length cap) w := by
    intro a c _
    cases a with
    | none => simp [Builtin.append_, run_underlying ht, Go.sizeOf, typeInfo, hi, Builtin.lenOf, run_firstCells_none, hcap, storeCells]
    | some ad =>
      have := run_firstCells_some (P := P) w i.size 0 ad 0 c [] (by simp) (by simp)
      simp [Builtin.append_, run_underlying ht, Go.sizeOf, typeInfo, hi, Builtin.lenOf, this, hcap, storeCells]
  rcases hy with ⟨⟨_, _, rfl⟩, rfl⟩ | ⟨b, off, cap2, ds, rfl, hcap2, hf, hc⟩
  · refine .inl ⟨by simpa using hcap, [], Flat.nil, ?_⟩
    rw [self]; exact none_run rfl
  · by_cases hroom : xs.length + ys.length ≤ cap
    · refine .inl ⟨hroom, ds, hf, ?_⟩
      have hfit : xs.length * n + ds.length ≤ cs.size := by
        rw [hf.sz, ← Nat.add_mul]; exact Nat.le_trans (Nat.mul_le_mul_right n hroom) hcz
      have hr := append_room (P := P) (ty := ty) ht hi hblk (a := ⟨b, off, none⟩) (m := ys.length) (c := cap2) (news := ds) (by rw [hf.sz, hsz]) (fun j v hj => by rw [Addr.add_none]; exact hc j v hj) (hf.one h0) hroom (by rw [hsz]; exact hfit)
      rw [hsz] at hr
      exact hr
    · have holds : ∀ (j : Nat) (v : Value), fs[j]? = some v → w.cell? ((⟨blk, 0, none⟩ : Addr).add j) = some v := fun j v hj => by
        rw [Addr.add_none, Nat.zero_add, cell_of_row w _ _ cs T _ hblk]; exact hfs j v hj
      have hr := run_append_grow (P := P) w t ty e i z ht hi hz ⟨blk, 0, none⟩ xs.length cap fs (by rw [hxs.sz, hsz]) holds ⟨b, off, none⟩ ys.length cap2 ds (by rw [hf.sz, hsz]) (fun j v hj => by rw [Addr.add_none]; exact hc j v hj) (by omega) (by omega) (growslice_fits (by omega) hb)
      refine .inr ⟨_, _, fs ++ ds, _, hr, rfl, rfl, rfl, rfl, hxs.append hf, by rw [List.length_append]; exact grownCap_ge w _ cap e, ?_, fun j c hj => ?_⟩
      · have h1 := grownCap_ge w (xs.length + ys.length) cap e
        rw [Array.size_append, Array.size_append, List.size_toArray, List.size_toArray, hxs.sz, hf.sz, size_zeroCells, hzs, ← Nat.add_mul, ← Nat.add_mul]
        exact Nat.mul_le_mul_right n (by omega)
      · have hlt := (List.getElem?_eq_some_iff.1 hj).1
        rw [Array.getElem?_append_left (by simpa using hlt)]
        have : (fs.toArray ++ ds.toArray) = (fs ++ ds).toArray := by simp
        rw [this]; simpa using hj
end
end Go.PV
