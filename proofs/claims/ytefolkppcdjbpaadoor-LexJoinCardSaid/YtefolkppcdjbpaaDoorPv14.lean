/- Part of the proof of LexJoin. -/
import Derived.Test.YtefolkppcdjbpaaDoorPv13
namespace Go.PV
open Go Go.RowKit
section
variable {P : Program} {nt : Nat} {o : Oper} {E : Ent} {a : Act} {w : World} {K : St → Prop}
theorem Dist.app {ids ns : Ids} {b : Nat} (h1 : Dist ids) (h2 : ∀ (j id g : Nat), ids[j]? = some (id, g) → id < b ∨ b + 64 ≤ id) (h3 : ∀ (j id g : Nat), ns[j]? = some (id, g) → id = b + j) (h4 : ns.length ≤ 64) : Dist (ids ++ ns) := by
  intro i j x y hi hj e
  rw [List.getElem?_append] at hi hj
  split at hi <;> split at hj
  · exact h1 i j x y hi hj e
  · have q1 := h2 i x.1 x.2 hi
    have q2 := h3 _ y.1 y.2 hj
    have := (List.getElem?_eq_some_iff.1 hj).1
    omega
  · have q1 := h2 j y.1 y.2 hj
    have q2 := h3 _ x.1 x.2 hi
    have := (List.getElem?_eq_some_iff.1 hi).1
    omega
  · have q1 := h3 _ x.1 x.2 hi
    have q2 := h3 _ y.1 y.2 hj
    omega
/-- behind a call: the caller's ghost and table -/
theorem call_back {G G' : Gh} {s : St} {w' : World} {ids ids' : Ids} {os os' : List Ob} (hR : RG E G s a w) (hN : Named ids os s.O) (hd' : Dist ids')
    (hlen : ids'.length = os'.length)
    (hin : ∀ (j : Nat) (o : Ob) (id g : Nat), os[j]? = some o → ids[j]? = some (id, g) → ids'[j]? = some (id, match o with | .box _ _ => g | .arr _ _ _ _ => g + 1))
    (hnew : ∀ (j id g : Nat), os.length ≤ j → ids'[j]? = some (id, g) → 64 ≤ id ∧ ∀ o, s.O id = some o → o.gen < g)
    (hok : ∀ o ∈ os', okO os'.length o = true) (hkind : ∀ (k g : Nat) (c : List V), os[k]? = some (.box g c) → ∃ g' c', os'[k]? = some (.box g' c'))
    (hro : ∀ (k : Nat) (o : Ob), os'[k]? = some o → RO G' w' (tbl os') k o) (hk : Keep (downG ids G) w G' w' os) :
    ∃ Gn, RG E Gn (putAll ids' ids' os' s) a w' ∧ ∀ p v, RA G' w' (tbl os') p v → okA os'.length p = true → RA Gn w' (putAll ids' ids' os' s).O (renA ids' p) v := by
  have hN' : Named ids' os' (putAll ids' ids' os' s).O := ⟨hlen, fun k o id g ho hi => putAll_in ids' ids' os' s hd' k id g o hi ho⟩
  let Gn := upG ids' w.heap.size G (downG ids G) G'
  have hs : ∀ b o c, stab G' w' b o c → stab Gn w' b o c := by
    intro b off c h
    refine ⟨fun l hl => h.1 l ?_, h.2⟩
    simp only [Gn, upG] at hl
    split at hl
    · rename_i hc
      rw [(hk.im b hc.1 hc.2).1]; exact hl
    · exact hl
  have hst : ∀ b o c, stab G w b o c → stab Gn w' b o c := fun b off c h => hs _ _ _ (hk.st _ _ _ h)
  have hb : ∀ (k id g : Nat), ids'[k]? = some (id, g) → Gn.blk id = G'.blk k ∧ Gn.cap id = G'.cap k ∧ Gn.isnil id = G'.isnil k := by
    intro k id g h
    simp only [Gn, upG, find_of hd' h]
    exact ⟨trivial, trivial, trivial⟩
  have hout : ∀ id, find ids' id = none → Gn.blk id = G.blk id ∧ Gn.cap id = G.cap id ∧ Gn.isnil id = G.isnil id := by
    intro id h
    simp only [Gn, upG, h]
    exact ⟨trivial, trivial, trivial⟩
  have hnone : ∀ id, find ids' id = none → (∀ (j b g : Nat), ids'[j]? = some (b, g) → b ≠ id) := by
    intro id h j b g hj e
    subst e
    rw [find_of hd' hj] at h; cases h
  have hfold : ∀ id, find ids' id = none → find ids id = none := by
    intro id h
    cases hf : find ids id with
    | none => rfl
    | some k =>
      obtain ⟨g, hg⟩ := find_some hf
      have hko : k < os.length := by rw [← hN.1]; exact (List.getElem?_eq_some_iff.1 hg).1
      exact absurd rfl (hnone id h k id _ (hin k _ id g (List.getElem?_eq_getElem hko) hg))
  have hown : ∀ k id g l, ids'[k]? = some (id, g) → G'.own (G'.blk k) = ⟨some k, l⟩ → Gn.own (G'.blk k) = ⟨some id, l⟩ := by
    intro k id g l hi e
    simp only [Gn, upG]
    rw [if_neg]
    · rw [e]; simp [hi]
    · intro ⟨c1, c2⟩
      have := (hk.im _ c1 c2).1
      rw [e] at this
      rw [← this] at c2; cases c2
  have kept : ∀ b, b < w.heap.size → (G.own b).ow = none ∨ (∃ id, (G.own b).ow = some id ∧ find ids id = none) → Gn.own b = G.own b ∧ w'.heap[b]? = w.heap[b]? := by
    intro b hlt h
    have hc : ((downG ids G).own b).ow = none := by
      simp only [downG]
      rcases h with h | ⟨id, h, h2⟩
      · rw [h]; rfl
      · rw [h]; simpa using h2
    exact ⟨by simp only [Gn, upG]; rw [if_pos ⟨hlt, hc⟩], (hk.im b hlt hc).2⟩
  have hin' : ∀ k, k < os.length → ∃ id g o, ids[k]? = some (id, g) ∧ os[k]? = some o ∧ s.O id = some (renO ids g o) := by
    intro k hko
    have h1 := List.getElem?_eq_getElem (show k < ids.length from by rw [hN.1]; exact hko)
    have h2 := List.getElem?_eq_getElem hko
    exact ⟨_, _, _, h1, h2, hN.2 k _ _ _ h2 h1⟩
  have hle' : Le G w s.O Gn w' (putAll ids' ids' os' s).O := by
    refine ⟨hst, fun id o ho => ?_⟩
    cases hf : find ids' id with
    | none =>
      obtain ⟨e1, e2, e3⟩ := hout id hf
      exact ⟨o, by rw [putAll_out ids' ids' os' s id (hnone id hf)]; exact ho, .inr ⟨rfl, rfl, e1.symm, fun _ => ⟨e2.symm, e3.symm⟩⟩⟩
    | some k =>
      obtain ⟨g', hg'⟩ := find_some hf
      have hk' : k < os'.length := by rw [← hlen]; exact (List.getElem?_eq_some_iff.1 hg').1
      have ho' := List.getElem?_eq_getElem hk'
      refine ⟨_, putAll_in ids' ids' os' s hd' k id g' _ hg' ho', ?_⟩
      rw [renO_gen, renO_sig]
      by_cases hko : k < os.length
      · obtain ⟨id2, g, oo, h1, h2, h3⟩ := hin' k hko
        have h4 := hin k oo id2 g h2 h1
        rw [hg'] at h4
        simp only [Option.some.injEq, Prod.mk.injEq] at h4
        obtain ⟨rfl, h4⟩ := h4
        rw [ho] at h3
        cases h3
        cases oo with
        | arr gb sh n xs => exact .inl (by rw [renO_gen, h4]; exact Nat.lt_succ_self _)
        | box gb c =>
          obtain ⟨g1, c1, h5⟩ := hkind k _ _ h2
          rw [h5] at ho'
          refine .inr ⟨by rw [renO_gen, h4], ?_, ?_, fun e => absurd rfl e⟩
          · rw [← Option.some.inj ho']; rfl
          · rw [(hb k id g' hg').1, hk.bx k gb c h2]; simp only [downG, getD_ids h1]
      · exact .inl ((hnew k id g' (by omega) hg').2 o ho)
  refine ⟨Gn, hR.upd (fun t => putAll_V ids' ids' os' s t) hle' (fun id o ho => ?_) (hR.fr.trans hk.sys hk.tape hk.output hk.size hst (fun b hlt hn => kept b hlt (.inl hn)) (fun id hid hbx => ?_)) (fun id b hbx => ?_), fun p v h hp => upA hN' hs hb hok h hp⟩
  · cases hf : find ids' id with
    | none =>
      rw [putAll_out ids' ids' os' s id (hnone id hf)] at ho
      obtain ⟨e1, e2, e3⟩ := hout id hf
      refine (hR.ob id o ho).mono hle' e1.symm e2.symm e3.symm (fun hn => ?_)
      obtain ⟨q1, q2⟩ := (hR.ob id o ho).blk_lt hn
      have := kept _ q1 (.inr ⟨id, q2, hfold id hf⟩)
      exact ⟨this.2, this.1⟩
    | some k =>
      obtain ⟨g', hg'⟩ := find_some hf
      have hk' : k < os'.length := by rw [← hlen]; exact (List.getElem?_eq_some_iff.1 hg').1
      have ho' := List.getElem?_eq_getElem hk'
      rw [putAll_in ids' ids' os' s hd' k id g' _ hg' ho'] at ho
      cases ho
      exact upO hN' hs hb hok ho' hg' (fun l e => hown k id g' l hg' e) (hro k _ ho')
  · cases hf : find ids' id with
    | none => exact (hout id hf).1
    | some k =>
      obtain ⟨g', hg'⟩ := find_some hf
      obtain ⟨b, hbx⟩ := hbx
      by_cases hko : k < os.length
      · obtain ⟨id2, g, oo, h1, h2, h3⟩ := hin' k hko
        have h4 := hin k oo id2 g h2 h1
        rw [hg'] at h4
        simp only [Option.some.injEq, Prod.mk.injEq] at h4
        obtain ⟨rfl, h4⟩ := h4
        obtain ⟨gb, cb, h5⟩ := hR.bxs id b hbx
        rw [h5] at h3
        cases oo with
        | arr => cases h3
        | box gb' c => rw [(hb k id g' hg').1, hk.bx k gb' c h2]; simp only [downG, getD_ids h1]
      · have := (hnew k id g' (by omega) hg').1; omega
  · cases hf : find ids' id with
    | none => exact .inl (putAll_out ids' ids' os' s id (hnone id hf))
    | some k =>
      obtain ⟨g', hg'⟩ := find_some hf
      by_cases hko : k < os.length
      · obtain ⟨id2, g, oo, h1, h2, h3⟩ := hin' k hko
        have h4 := hin k oo id2 g h2 h1
        rw [hg'] at h4
        simp only [Option.some.injEq, Prod.mk.injEq] at h4
        obtain ⟨rfl, h4⟩ := h4
        obtain ⟨gb, cb, h5⟩ := hR.bxs id b hbx
        rw [h5] at h3
        cases oo with
        | arr => cases h3
        | box gb' c =>
          obtain ⟨g1, c1, h6⟩ := hkind k _ _ h2
          exact .inr ⟨_, _, putAll_in ids' ids' os' s hd' k id g' _ hg' h6⟩
      · have h1 := (hnew k id g' (by omega) hg').1
        have h2 := (hR.fr.bx id b hbx).1
        omega
theorem callK_ok [Env P] {G : Gh} {s : St} {next : Act → World → Prop} {Q : Exit → Act → World → Prop} {f : FuncId} {avs : List V} {vs : Array Value} (hnt : E.ok P nt) (hR : RG E G s a w) (hn : ∀ s' a' w', K s' → R E s' a' w' → next a' w') (h : (callK P nt o f avs).mwp s K)
    (hvs : Cells (RV G w s.O) avs vs) (hrun : CallOk P f → (execOp a.eval o).run P w = .ok (.enter f vs) w) : o.wp P a w next Q := by
  unfold callK at h
  obtain ⟨G1, s1, avs', hR1, hle1, hV1, h, hlen, hav⟩ := shAL_ok (xs := vs.toList) hR (by simpa using hvs.1.symm) (fun j p hj => by simpa using hvs.2 j p hj) h
  split at h
  · exact h.elim
  rename_i d hd
  obtain ⟨r, ⟨hg, hmap, hokA, hokO⟩, h⟩ := h
  dsimp only at h
  split at h
  · exact h.elim
  rename_i hdist
  obtain ⟨hdi, hfar⟩ := distB_spec hdist
  obtain ⟨h1, h2, h⟩ := getsK_spec h
  have hN : Named r.ids r.os s1.O := ⟨h1, h2⟩
  rw [force_eq] at h
  obtain ⟨ns, hns1, hns2, h⟩ := newsK_spec h
  rw [force_eq] at h
  split at h
  · exact h.elim
  rename_i hsmall
  have hsmall := Nat.le_of_ble_eq_true hsmall
  rw [putsK_eq] at h
  obtain ⟨ha1, ha2⟩ := aft_spec h1
  have hokO := fun o ho => List.all_eq_true.1 hokO o ho
  have hcall := hrun hg.call
  have hargs : Cells (RA (downG r.ids G1) w (tbl r.os)) r.args vs := by
    refine Cells.map_down (R := RA G1 w s1.O) (f := renA r.ids) (q := okA r.os.length) (fun p v => downA hN hokO) ?_ hokA
    rw [hmap]
    exact ⟨by simpa using hlen.symm, fun j p hj => by simpa using hav j p hj⟩
  have hros : ∀ (k : Nat) (o : Ob), r.os[k]? = some o → RO (downG r.ids G1) w (tbl r.os) k o := by
    intro k ob hk
    obtain ⟨id, g, o2, e1, e2, e3, _⟩ := hN.at_ hokO (List.getElem?_eq_some_iff.1 hk).1
    rw [hk] at e2; cases e2
    exact downO hN hdi hokO hk e1 (hR1.ob id _ e3)
  unfold Oper.wp
  rw [hcall]
  simp only [Oper.upon]
  obtain ⟨henv, hz⟩ := hR1.fr.env hnt
  refine (hg.run vs w _ hargs hros (fun k hk => ⟨(henv k hk).1, by simp only [downG]; rw [(henv k hk).2]; rfl⟩) hz).mono ?_
  rintro e w' ⟨rv, G', rfl, hres, hro', hk⟩
  dsimp only
  have hblen : (aft r.ids r.os ++ ns).length = r.os'.length := by
    rw [List.length_append, ha1, hns1, List.length_drop]; have := hg.len; omega
  have hd' : Dist (aft r.ids r.os ++ ns) := by
    refine Dist.app (b := 1024 + 64 * d) ?_ ?_ (fun j id g hj => (hns2 j id g hj).1) (by rw [hns1]; exact hsmall)
    · intro i j x y hi hj e
      have hi' := (List.getElem?_eq_some_iff.1 hi).1
      have hj' := (List.getElem?_eq_some_iff.1 hj).1
      rw [ha1] at hi' hj'
      obtain ⟨id1, g1, o1, q1, q2, _⟩ := hN.at_ hokO hi'
      obtain ⟨id2, g2, o2, q3, q4, _⟩ := hN.at_ hokO hj'
      have e1 := ha2 i o1 id1 g1 q2 q1
      have e2 := ha2 j o2 id2 g2 q4 q3
      rw [hi] at e1; rw [hj] at e2
      simp only [Option.some.injEq] at e1 e2
      rw [e1, e2] at e
      exact hdi i j _ _ q1 q3 e
    · intro j id g hj
      have hj' := (List.getElem?_eq_some_iff.1 hj).1
      rw [ha1] at hj'
      obtain ⟨id2, g2, o2, q3, q4, _⟩ := hN.at_ hokO hj'
      have e2 := ha2 j o2 id2 g2 q4 q3
      rw [hj] at e2
      simp only [Option.some.injEq, Prod.mk.injEq] at e2
      rw [e2.1]; exact hfar j id2 g2 q3
  obtain ⟨Gn, hRn, hup⟩ := call_back (ids' := aft r.ids r.os ++ ns) hR1 hN hd' hblen
    (fun j o id g ho hi => by rw [List.getElem?_append_left (by rw [ha1]; exact (List.getElem?_eq_some_iff.1 ho).1)]; exact ha2 j o id g ho hi)
    (fun j id g hj hi => by
      rw [List.getElem?_append_right (by rw [ha1]; exact hj)] at hi
      obtain ⟨e1, e2⟩ := hns2 _ id g hi
      exact ⟨by omega, e2⟩)
    (fun o ho => List.all_eq_true.1 hg.okO' o ho) hg.kind hro' hk
  have hokR := fun p hp => List.all_eq_true.1 hg.okR p hp
  split at h
  · rename_i p hp
    rw [renAK_eq] at h
    rw [hp] at hres hokR
    obtain ⟨s', hk', hR2⟩ := setD_put hnt hRn (.any _ _ (hup p rv hres (hokR p (by simp)))) h
    exact hn _ _ _ hk' (by rw [hd]; exact ⟨_, hR2⟩)
  · rename_i hp
    rw [renALK_eq] at h
    have hres' : ∃ vs, rv = .tuple vs ∧ Cells (RA G' w' (tbl r.os')) r.res vs := by
      unfold resRel at hres; split at hres
      · rename_i p e; exact absurd e (hp p)
      · exact hres
    obtain ⟨rvs, rfl, hc⟩ := hres'
    have hall : r.res.all (okA r.os'.length) = true := hg.okR
    obtain ⟨s', hk', hR2⟩ := setD_put hnt hRn (.tup _ _ (hc.map_up (q := okA r.os'.length) hup hall)) h
    exact hn _ _ _ hk' (by rw [hd]; exact ⟨_, hR2⟩)
end
end Go.PV
