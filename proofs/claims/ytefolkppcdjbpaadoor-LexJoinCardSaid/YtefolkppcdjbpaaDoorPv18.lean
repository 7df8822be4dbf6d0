/- Part of the proof of LexJoin. -/
import Derived.Test.YtefolkppcdjbpaaDoorPv17
namespace Go.PV
open Go Go.RowKit
def forceP (v : V) (k : V → Prop) : Prop := match v with
  | .dead => k .dead
  | .int i n => k (.int i n)
  | .bool b => k (.bool b)
  | .str l => k (.str l)
  | .nil => k .nil
  | .nilp => k .nilp
  | .nili => k .nili
  | .ifc => k .ifc
  | .fn f c => k (.fn f c)
  | .agg l => k (.agg l)
  | .tup l => k (.tup l)
  | .sl n xs => k (.sl n xs)
  | .own id g => k (.own id g)
  | .ptr id g off => k (.ptr id g off)
  | .elp id g i off => k (.elp id g i off)
  | .rp l => k (.rp l)
theorem forceP_eq (v : V) (k : V → Prop) : forceP v k = k v := by cases v <;> rfl
/-- only some slots -/
def pruneT : List Nat → List (Nat × V) → (List (Nat × V) → Prop) → Prop
  | [], _, K => K []
  | t :: ts, tm, K => match lkV tm t with
    | .dead => pruneT ts tm K
    | v => forceP v fun v => pruneT ts tm fun l => K ((t, v) :: l)
theorem pruneT_spec {tm : List (Nat × V)} : ∀ {ts : List Nat} {K : List (Nat × V) → Prop}, pruneT ts tm K → ∃ l, K l ∧ ∀ t, lkV l t = lkV tm t ∨ lkV l t = .dead
  | [], K, h => ⟨[], h, fun t => .inr rfl⟩
  | t :: ts, K, h => by
    simp only [pruneT] at h
    split at h
    · exact pruneT_spec h
    · rw [forceP_eq] at h
      obtain ⟨l, h1, h2⟩ := pruneT_spec h
      refine ⟨_, h1, fun u => ?_⟩
      rw [lkV_cons]
      split
      · rename_i e; subst e; exact .inl rfl
      · exact h2 u
/-- objects, each once -/
def seenB (id : Nat) : List Nat → Bool
  | [] => false
  | x :: xs => match Nat.beq x id with | true => true | false => seenB id xs
def pruneO : List Nat → List (Nat × Ob) → (List (Nat × Ob) → Prop) → Prop
  | _, [], K => K []
  | seen, (id, o) :: r, K => match seenB id seen with
    | true => pruneO seen r K
    | false => pruneO (id :: seen) r fun l => K ((id, o) :: l)
theorem seenB_iff {id : Nat} : ∀ {l : List Nat}, seenB id l = true ↔ id ∈ l
  | [] => by simp [seenB]
  | x :: xs => by
    simp only [seenB, List.mem_cons]
    cases h : Nat.beq x id with
    | true => simp [Nat.eq_of_beq_eq_true h]
    | false =>
      have := Nat.ne_of_beq_eq_false h
      simp only [seenB_iff (l := xs)]
      exact ⟨.inr, fun h => h.resolve_left (Ne.symm this)⟩
theorem pruneO_spec : ∀ {ob : List (Nat × Ob)} {seen : List Nat} {K : List (Nat × Ob) → Prop}, pruneO seen ob K → ∃ l, K l ∧ ∀ id, id ∉ seen → lk l id = lk ob id
  | [], seen, K, h => ⟨[], h, fun id _ => rfl⟩
  | (x, o) :: r, seen, K, h => by
    simp only [pruneO] at h
    split at h
    · rename_i hs
      obtain ⟨l, h1, h2⟩ := pruneO_spec h
      refine ⟨l, h1, fun id hid => ?_⟩
      rw [lk_cons, if_neg (fun e => by subst e; exact hid (seenB_iff.1 hs))]; exact h2 id hid
    · obtain ⟨l, h1, h2⟩ := pruneO_spec h
      refine ⟨_, h1, fun id hid => ?_⟩
      rw [lk_cons, lk_cons]
      split
      · rfl
      · rename_i hne
        exact h2 id (by simp only [List.mem_cons, not_or]; exact ⟨Ne.symm hne, hid⟩)
def prune (lv : List Nat) (s : St) (K : St → Prop) : Prop := pruneT lv s.tm fun tm => pruneO [] s.ob fun ob => K ⟨tm, ob⟩
theorem prune_ok {lv : List Nat} {s : St} {K : St → Prop} {E : Ent} {a : Act} {w : World} (h : prune lv s K) (hR : R E s a w) : ∃ s', K s' ∧ R E s' a w := by
  obtain ⟨tm, h1, h2⟩ := pruneT_spec h
  obtain ⟨ob, h3, h4⟩ := pruneO_spec h1
  obtain ⟨G, hR⟩ := hR
  have hO : (⟨tm, ob⟩ : St).O = s.O := funext fun id => h4 id (by simp)
  refine ⟨_, h3, G, hR.nt, hR.df, fun t => ?_, fun id o ho => ?_, hR.fr, fun id b hb => ?_⟩
  · rw [hO]
    rcases h2 t with e | e
    · have : (⟨tm, ob⟩ : St).V t = s.V t := e
      rw [this]; exact hR.tm t
    · have : (⟨tm, ob⟩ : St).V t = .dead := e
      rw [this]; exact .dead _
  · rw [hO] at ho ⊢; exact hR.ob id o ho
  · rw [hO]; exact hR.bxs id b hb
/-- what a piece of code does, told of states -/
def Ex (P : Program) [Env P] (nt : Nat) (c : Code) (s : St) (Q : Exit → St → Prop) : Prop :=
  ∀ (E : Ent) (a : Act) (w : World), E.ok P nt → R E s a w → c.wp P (fun e a' w' => ∃ s', Q e s' ∧ R E s' a' w') a w
structure SeqP (P : Program) [Env P] (nt : Nat) (x y : Code) (s : St) (Q : Exit → St → Prop) : Prop where
  ex : Ex P nt (.seq x y) s Q
/-- by what a piece of code is called, behind which ways meet -/
def jn : Code → Nat
  | .cond (.tmp t) _ _ => t
  | .seq _ c => jn c
  | .block id _ => 100000 + id
  | .region id _ _ => 200000 + id
  | _ => 0
structure LoopP (P : Program) [Env P] (nt : Nat) (c : Code) (s : St) (Q : Exit → St → Prop) : Prop where
  ex : Ex P nt (.loop c) s Q
def thenQ (next : St → Prop) (Q : Exit → St → Prop) (e : Exit) (s : St) : Prop := match e with
  | .normal => next s
  | .exit i => Q (.exit i) s
  | .goto l => Q (.goto l) s
  | .ret => Q .ret s
  | .panic c => Q (.panic c) s
  | .outgrown => Q .outgrown s
def blockQ (id : Nat) (Q : Exit → St → Prop) (e : Exit) (s : St) : Prop := match e with
  | .normal => Q .normal s
  | .exit i => match Nat.beq i id with
    | true => Q .normal s
    | false => Q (.exit i) s
  | .goto l => Q (.goto l) s
  | .ret => Q .ret s
  | .panic c => Q (.panic c) s
  | .outgrown => Q .outgrown s
def ev (P : Program) [Env P] (nt : Nat) (lv js : List Nat) : Code → St → (Exit → St → Prop) → Prop
  | .skip, s, Q => Q .normal s
  | .label _, s, Q => Q .normal s
  | .region _ ops d, s, Q => match d with
    | false => regSeq P nt ops.toList ops.toList s fun s' => prune lv s' fun s'' => Q .normal s''
    | true => regAny P nt ops.toList ops.toList s [] fun L s' => chk ops.toList L = true ∧ prune lv s' fun s'' => Q .normal s''
  | .seq x y, s, Q => match seenB (jn x) js with
    | true => SeqP P nt x y s Q
    | false => ev P nt lv js x s (thenQ (fun s' => ev P nt lv js y s' Q) Q)
  | .cond c x y, s, Q => match c with
    | .tmp t => match s.V t with
      | .bool b => branch b (ev P nt lv js x s Q) (ev P nt lv js y s Q)
      | _ => False
    | _ => False
  | .block id c, s, Q => ev P nt lv js c s (blockQ id Q)
  | .loop c, s, Q => LoopP P nt c s Q
  | .exit id, s, Q => Q (.exit id) s
  | .ret, s, Q => Q .ret s
  | _, _, _ => False
theorem ev_ok {P : Program} [Env P] (hP : P.follows .mixedOrders = true) {nt : Nat} {lv js : List Nat} : ∀ {c : Code} {s : St} {Q : Exit → St → Prop}, ev P nt lv js c s Q → Ex P nt c s Q
  | .skip, s, Q, h => fun E a w hnt hR => wp_skip ⟨s, h, hR⟩
  | .label _, s, Q, h => fun E a w hnt hR => wp_label ⟨s, h, hR⟩
  | .region _ ops false, s, Q, h => fun E a w hnt hR => by
    refine wp_region ?_
    have := regSeq_ok (opsA := ops) (K := fun s' => prune lv s' fun s'' => Q .normal s'') (Q := fun e a' w' => ∃ s', Q e s' ∧ R E s' a' w') hnt (fun s' a' w' hk hR' => prune_ok hk hR') ops.toList 0 s a w (fun j => by rw [Array.getElem?_toList, Nat.zero_add]) hR h
    rw [Array.length_toList] at this
    rw [List.range_eq_range']; exact this
  | .region _ ops true, s, Q, h => fun E a w hnt hR => by
    refine wp_region_any hP ?_
    have hR' : R E s a { w with drawn := w.drawn + 1 } := by
      obtain ⟨G, hR⟩ := hR
      have hst : ∀ b o c, stab G w b o c → stab G { w with drawn := w.drawn + 1 } b o c := fun _ _ _ h => h
      exact ⟨G, hR.upd (fun _ => rfl) ⟨hst, fun id o ho => ⟨o, ho, .inr ⟨rfl, rfl, rfl, fun _ => ⟨rfl, rfl⟩⟩⟩⟩ (fun id o ho => (hR.ob id o ho).mono ⟨hst, fun id o ho => ⟨o, ho, .inr ⟨rfl, rfl, rfl, fun _ => ⟨rfl, rfl⟩⟩⟩⟩ rfl rfl rfl (fun _ => ⟨rfl, rfl⟩))
        (hR.fr.trans rfl rfl rfl (Nat.le_refl _) hst (fun _ _ _ => ⟨rfl, rfl⟩) (fun _ _ _ => rfl)) (fun id b hb => .inl rfl)⟩
    have hmono : ∀ (r : List Oper) (s : St) (L : Logs), (regAny P nt ops.toList r s L fun L s' => chk ops.toList L = true ∧ prune lv s' fun s'' => Q .normal s'') → regAny P nt ops.toList r s L fun L s' => chk ops.toList L = true ∧ ∀ s'', s'.Eqv s'' → ∃ s', s'.Eqv s'' ∧ prune lv s' fun s'' => Q .normal s'' := by
      intro r
      induction r with
      | nil => intro s L h; exact ⟨h.1, fun s'' e => ⟨s, e, h.2⟩⟩
      | cons o r ih =>
        intro s L h
        simp only [regAny] at h ⊢
        have mono : ∀ (p : Pr) (s : St) (A B : List Loc) (K K' : St → List Loc → List Loc → Prop), (∀ s A B, K s A B → K' s A B) → p.wp s A B K → p.wp s A B K' := by
          intro p
          induction p with
          | done => intro s A B K K' hk h; exact hk _ _ _ h
          | fail => intro s A B K K' hk h; exact h
          | get t k ih => intro s A B K K' hk h; simp only [Pr.wp, forceW_eq] at h ⊢; exact ih _ _ _ _ _ _ hk h
          | put t v k ih => intro s A B K K' hk h; simp only [Pr.wp, St.putP_eq] at h ⊢; exact ih _ _ _ _ _ hk h
          | getO t k ih => intro s A B K K' hk h; exact ih _ _ _ _ _ _ hk h
          | putO t v k ih => intro s A B K K' hk h; simp only [Pr.wp, St.putOP_eq] at h ⊢; exact ih _ _ _ _ _ hk h
          | brs t p q ihp ihq =>
            intro s A B K K' hk h
            simp only [Pr.wp] at h ⊢
            split at h
            · rename_i b hb
              simp only [St.putP_eq] at h ⊢
              cases b with
              | true => exact ihp _ _ _ _ _ hk h
              | false => exact ihq _ _ _ _ _ hk h
            · exact h.elim
          | ex β φ k ih => intro s A B K K' hk h; obtain ⟨b, hb, h⟩ := h; exact ⟨b, hb, ih b _ _ _ _ _ hk h⟩
        exact mono _ _ _ _ _ _ (fun s A B h => ih s _ h) h
    exact regAny_ok (K := fun s'' => ∃ s', s'.Eqv s'' ∧ prune lv s' fun s'' => Q .normal s'') hnt (fun s' a' w' ⟨s1, e, hk⟩ hR' => by
      obtain ⟨G, hR'⟩ := hR'
      exact prune_ok hk ⟨G, hR'.eqv e.symm⟩) hR' (hmono _ _ _ h)
  | .seq x y, s, Q, h => fun E a w hnt hR => by
    simp only [ev] at h
    split at h
    · exact h.ex E a w hnt hR
    refine wp_seq (wp_mono (ev_ok hP h E a w hnt hR) ?_)
    rintro e a' w' ⟨s', hq, hR'⟩
    cases e with
    | normal => exact ev_ok hP hq E a' w' hnt hR'
    | exit i => exact ⟨s', hq, hR'⟩
    | goto l => exact ⟨s', hq, hR'⟩
    | ret => exact ⟨s', hq, hR'⟩
    | panic c => exact ⟨s', hq, hR'⟩
    | outgrown => exact ⟨s', hq, hR'⟩
  | .cond c x y, s, Q, h => fun E a w hnt hR => by
    simp only [ev] at h
    split at h
    · rename_i t
      split at h
      · rename_i b hb
        have hv : a.eval (.tmp t) = .bool b := by
          obtain ⟨G, hR⟩ := hR
          exact (hb ▸ hR.tm t : RV G w s.O (.bool b) _).bool_inv
        cases b with
        | true => exact wp_cond_true hv (ev_ok hP h E a w hnt hR)
        | false => exact wp_cond_false hv (ev_ok hP h E a w hnt hR)
      · exact h.elim
    · exact h.elim
  | .block id c, s, Q, h => fun E a w hnt hR => by
    have h : ev P nt lv js c s (blockQ id Q) := h
    refine wp_block (wp_mono (ev_ok hP h E a w hnt hR) ?_)
    rintro e a' w' ⟨s', hq, hR'⟩
    cases e with
    | normal => exact ⟨s', hq, hR'⟩
    | exit i =>
      simp only [Exit.inBlock]
      simp only [blockQ] at hq
      split at hq
      · rename_i e; rw [if_pos (Nat.eq_of_beq_eq_true e)]; exact ⟨s', hq, hR'⟩
      · rename_i e; rw [if_neg (Nat.ne_of_beq_eq_false e)]; exact ⟨s', hq, hR'⟩
    | goto l => exact ⟨s', hq, hR'⟩
    | ret => exact ⟨s', hq, hR'⟩
    | panic c => exact ⟨s', hq, hR'⟩
    | outgrown => exact ⟨s', hq, hR'⟩
  | .loop c, s, Q, h => h.ex
  | .exit id, s, Q, h => fun E a w hnt hR => wp_exit ⟨s, h, hR⟩
  | .ret, s, Q, h => fun E a w hnt hR => wp_ret ⟨s, h, hR⟩
  | .rangeFunc _ _ _ _, s, Q, h => h.elim
  | .scope _, s, Q, h => h.elim
  | .goto _, s, Q, h => h.elim
  | .refuse _, s, Q, h => h.elim
/-- a loop, by what is so at its head, with so many rounds at most to come -/
theorem wp_loop_ghost {P : Program} {c : Code} {Q : Exit → Act → World → Prop} (I : Nat → Act → World → Prop) (round : ∀ n a w, I n a w → c.wp P (Exit.then (fun a' w' => ∃ m, m < n ∧ I m a' w') Q) a w) (n : Nat) (a : Act) (w : World) (h : I n a w) : (Code.loop c).wp P Q a w := by
  intro b k cs
  have key : ∀ n a w, I n a w → ∃ e a' w', Q e a' w' ∧ Arrives P (lone (b.at a (.code c :: .inLoop c :: k)) cs w) b k cs e a' w' := by
    intro n
    induction n using Nat.strongRecOn with
    | _ n ih =>
      intro a w hI
      obtain ⟨e, a₁, w₁, hq, harr⟩ := round n a w hI b (.inLoop c :: k) cs
      cases e with
      | normal =>
        obtain ⟨m, hlt, hI₁⟩ := hq
        obtain ⟨e₂, a₂, w₂, hq₂, harr₂⟩ := ih m hlt a₁ w₁ hI₁
        exact ⟨e₂, a₂, w₂, hq₂, .of_steps (Steps.trans harr (.one step_inLoop)) harr₂⟩
      | exit id => exact ⟨_, a₁, w₁, hq, .pass (x := .inLoop c) rfl (fun _ _ => .inl (by simp)) harr⟩
      | goto l => exact ⟨_, a₁, w₁, hq, .pass (x := .inLoop c) rfl (fun _ _ => .inl (by simp)) harr⟩
      | ret => exact ⟨_, a₁, w₁, hq, .pass (x := .inLoop c) rfl (fun _ _ => .inl (by simp)) harr⟩
      | panic ch => exact ⟨_, a₁, w₁, hq, .pass (x := .inLoop c) rfl (fun _ _ => .inl (by simp)) harr⟩
      | outgrown => exact ⟨_, a₁, w₁, hq, .pass (x := .inLoop c) rfl (fun _ _ => .inl (by simp)) harr⟩
  obtain ⟨e, a', w', hq, harr⟩ := key n a w h
  exact ⟨e, a', w', hq, .of_steps (.one step_loop) harr⟩
end Go.PV
