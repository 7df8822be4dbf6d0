/- Part of the proof of LexJoin. -/
import Derived.Test.YtefolkppcdjbpaaDoorPv15
namespace Go.PV
open Go Go.RowKit
def skipPr (nt : Nat) (o : Oper) : Pr := setD nt o.dst (.tup []) .done
def guardPr (P : Program) [Env P] (nt : Nat) (ops : List Oper) (o : Oper) : Pr := match o.guard with
  | none => opPr P nt ops o
  | some (j, want) => match ops[j]? with
    | none => .fail
    | some oj => match oj.dst with
      | none => .fail
      | some d => .get d fun v => match v with
        | .tup [] => skipPr nt o
        | .bool _ => match want with
          | true => .brs d (opPr P nt ops o) (skipPr nt o)
          | false => .brs d (skipPr nt o) (opPr P nt ops o)
        | _ => .fail
section
variable {P : Program} {nt : Nat} {opsA : Array Oper}
theorem guard_ok [Env P] {E : Ent} {G : Gh} {s : St} {a : Act} {w : World} {K : St → Prop} {next : Act → World → Prop} {Q : Exit → Act → World → Prop} {i : Nat} {o : Oper} (hnt : E.ok P nt) (hR : RG E G s a w) (ho : opsA[i]? = some o)
    (hm : (guardPr P nt opsA.toList o).mwp s K) (hn : ∀ s' a' w', K s' → R E s' a' w' → next a' w') : wpOp P opsA Q i next a w := by
  unfold wpOp
  simp only [ho]
  have skip : (skipPr nt o).mwp s K → next (a.put o.dst undef) w := fun h => by
    obtain ⟨s', hk, hR'⟩ := setD_put hnt hR .undef h
    exact hn _ _ _ hk ⟨_, hR'⟩
  have run : (opPr P nt opsA.toList o).mwp s K → o.wp P a w next Q := fun h => opPr_ok E G s a w K next Q hnt hR h hn
  unfold guardPr at hm
  split at hm
  · rename_i hg
    rw [if_pos (by simp [Region.wanted, hg])]
    exact .inl (run hm)
  · rename_i j want hg
    split at hm
    · exact hm.elim
    rename_i oj hj
    rw [Array.getElem?_toList] at hj
    split at hm
    · exact hm.elim
    rename_i d hd
    simp only [Pr.mwp] at hm
    have hy : yielded opsA a.tmps j = match a.tmps[d]? with | some (.bool b) => some b | _ => none := by
      unfold yielded; simp only [hj, hd, Option.bind_some]; rfl
    have hv := hR.tm d
    have hw : Region.wanted o (yielded opsA a.tmps) = (yielded opsA a.tmps j == some want) := by simp [Region.wanted, hg]
    split at hm
    · rename_i e
      rw [e] at hv
      obtain ⟨cs, h1, h2⟩ := hv.tup_inv
      have : yielded opsA a.tmps j = none := by
        rw [hy]
        cases ht : a.tmps[d]? with
        | none => rfl
        | some v => rw [Array.getD_eq_getD_getElem?, ht] at h1; simp only [Option.getD_some] at h1; rw [h1]
      rw [if_neg (by rw [hw, this]; simp)]
      exact skip hm
    · rename_i b e
      have hb : ∀ c, s.V d = .bool c → yielded opsA a.tmps j = some c := by
        intro c e
        rw [e] at hv
        have h1 := hv.bool_inv
        rw [hy]
        cases ht : a.tmps[d]? with
        | none => rw [Array.getD_eq_getD_getElem?, ht] at h1; cases h1
        | some v => rw [Array.getD_eq_getD_getElem?, ht] at h1; simp only [Option.getD_some] at h1; rw [h1]
      split at hm
      · simp only [Pr.mwp] at hm
        rcases hm with ⟨e1, hm⟩ | ⟨e1, hm⟩
        · rw [if_pos (by rw [hw, hb _ e1]; rfl)]; exact .inl (run hm)
        · rw [if_neg (by rw [hw, hb _ e1]; decide)]; exact skip hm
      · simp only [Pr.mwp] at hm
        rcases hm with ⟨e1, hm⟩ | ⟨e1, hm⟩
        · rw [if_neg (by rw [hw, hb _ e1]; decide)]; exact skip hm
        · rw [if_pos (by rw [hw, hb _ e1]; rfl)]; exact .inl (run hm)
    · exact hm.elim
end
/-- a region in its order -/
def regSeq (P : Program) [Env P] (nt : Nat) (ops : List Oper) : List Oper → St → (St → Prop) → Prop
  | [], s, K => K s
  | o :: r, s, K => (guardPr P nt ops o).wp s [] [] fun s' _ _ => regSeq P nt ops r s' K
theorem regSeq_ok {P : Program} [Env P] {nt : Nat} {opsA : Array Oper} {E : Ent} {Q : Exit → Act → World → Prop} {K : St → Prop} (hnt : E.ok P nt) (hQ : ∀ s' a' w', K s' → R E s' a' w' → Q .normal a' w') : ∀ (r : List Oper) (i : Nat) (s : St) (a : Act) (w : World),
    (∀ j, r[j]? = opsA[i + j]?) → R E s a w → regSeq P nt opsA.toList r s K → wpOps P opsA Q (List.range' i r.length) a w
  | [], i, s, a, w, _, hR, h => hQ s a w h hR
  | o :: r, i, s, a, w, hr, ⟨G, hR⟩, h => by
    rw [List.length_cons, List.range'_succ, wpOps_cons]
    simp only [regSeq] at h
    obtain ⟨s', s'', A, B, h1, h2, h3⟩ := Pr.wp_runs h
    refine guard_ok hnt hR (by have := hr 0; simpa using this.symm) h1.mwp fun s1 a' w' e hR' => ?_
    subst e
    obtain ⟨G', hR'⟩ := hR'
    exact regSeq_ok hnt hQ r (i + 1) s'' a' w' (fun j => by have := hr (j + 1); rw [List.getElem?_cons_succ] at this; rw [this]; congr 1; omega) ⟨G', hR'.eqv h2⟩ h3
/-! any order -/
def locB : Loc → Loc → Bool
  | .slot a, .slot b => Nat.beq a b
  | .ob a, .ob b => Nat.beq a b
  | _, _ => false
theorem locB_iff {a b : Loc} : locB a b = true ↔ a = b := by
  cases a <;> cases b <;> simp only [locB] <;> constructor <;> intro h
  · rw [Nat.eq_of_beq_eq_true h]
  · cases h; simp
  · cases h
  · cases h
  · cases h
  · cases h
  · rw [Nat.eq_of_beq_eq_true h]
  · cases h; simp
def noneIn (l m : List Loc) : Bool := l.all fun x => m.all fun y => !locB x y
theorem noneIn_spec {l m : List Loc} (h : noneIn l m = true) : ∀ x ∈ l, x ∉ m := by
  intro x hx hm
  have := List.all_eq_true.1 (List.all_eq_true.1 h x hx) x hm
  simp only [Bool.not_eq_true'] at this
  rw [locB_iff.2 rfl] at this; cases this
/-- reads and writes of two operations that may change places -/
def noconf (x y : List Loc × List Loc) : Bool := noneIn x.2 y.1 && noneIn x.2 y.2 && noneIn y.2 x.1
def bindsB (e : Edge) : Bool := Region.binds .any e
def maskOf (ms : List Nat) : List Edge → Nat
  | [] => 0
  | e :: r => match bindsB e with
    | true => ((1 <<< e.on) ||| ms.getD e.on 0) ||| maskOf ms r
    | false => maskOf ms r
def masksGo : List Oper → List Nat → List Nat
  | [], ms => ms
  | o :: r, ms => masksGo r (ms ++ [maskOf ms o.after.toList])
def edgesGo : List Oper → Nat → Bool
  | [], _ => true
  | o :: r, i => o.after.toList.all (fun e => !bindsB e || Nat.blt e.on i) && edgesGo r (i + 1)
def chk (ops : List Oper) (logs : List (List Loc × List Loc)) : Bool :=
  edgesGo ops 0 && (List.range ops.length).all fun i => (List.range i).all fun j => ((masksGo ops []).getD i 0).testBit j || noconf (logs.getD j ([], [])) (logs.getD i ([], []))
theorem edgesGo_spec : ∀ {ops : List Oper} {i : Nat}, edgesGo ops i = true → ∀ (j : Nat) (o : Oper), ops[j]? = some o → ∀ e ∈ o.after, bindsB e = true → e.on < i + j
  | [], i, _, j, o, hj, _, _, _ => by simp at hj
  | o :: r, i, h, j, o', hj, e, he, hb => by
    simp only [edgesGo, Bool.and_eq_true] at h
    cases j with
    | zero =>
      simp only [List.getElem?_cons_zero, Option.some.injEq] at hj; subst hj
      have := List.all_eq_true.1 h.1 e (Array.mem_toList_iff.2 he)
      rw [hb] at this; simpa using this
    | succ j => have := edgesGo_spec h.2 j o' (by simpa using hj) e he hb; omega
theorem maskOf_spec {ms : List Nat} {j : Nat} : ∀ {es : List Edge}, (maskOf ms es).testBit j = true → ∃ e ∈ es, bindsB e = true ∧ (e.on = j ∨ (ms.getD e.on 0).testBit j = true)
  | [], h => by simp [maskOf] at h
  | e :: es, h => by
    simp only [maskOf] at h
    split at h
    · rename_i hb
      rw [Nat.testBit_or, Nat.testBit_or, Bool.or_eq_true, Bool.or_eq_true] at h
      rcases h with (h | h) | h
      · refine ⟨e, by simp, hb, .inl ?_⟩
        rw [Nat.shiftLeft_eq, Nat.one_mul, Nat.testBit_two_pow] at h
        simpa using h
      · exact ⟨e, by simp, hb, .inr h⟩
      · obtain ⟨e', h1, h2⟩ := maskOf_spec h; exact ⟨e', by simp [h1], h2⟩
    · obtain ⟨e', h1, h2⟩ := maskOf_spec h; exact ⟨e', by simp [h1], h2⟩
theorem masksGo_spec : ∀ {ops : List Oper} {ms : List Nat}, ∃ ns, masksGo ops ms = ms ++ ns ∧ ns.length = ops.length ∧ ∀ (j : Nat) (o : Oper), ops[j]? = some o → (masksGo ops ms)[ms.length + j]? = some (maskOf ((masksGo ops ms).take (ms.length + j)) o.after.toList)
  | [], ms => ⟨[], by simp [masksGo], rfl, fun j o hj => by simp at hj⟩
  | o :: r, ms => by
    obtain ⟨ns, h1, h2, h3⟩ := masksGo_spec (ops := r) (ms := ms ++ [maskOf ms o.after.toList])
    refine ⟨maskOf ms o.after.toList :: ns, by simp [masksGo, h1], by simp [h2], fun j o' hj => ?_⟩
    cases j with
    | zero =>
      simp only [List.getElem?_cons_zero, Option.some.injEq] at hj; subst hj
      simp only [masksGo]; rw [h1]; simp
    | succ j =>
      have := h3 j o' (by simpa using hj)
      simp only [masksGo]
      rw [List.length_append, List.length_cons, List.length_nil] at this
      rw [show ms.length + (j + 1) = ms.length + (0 + 1) + j by omega]; exact this
/-- the bit says: it waits for it -/
theorem mask_closed {ops : List Oper} (he : edgesGo ops 0 = true) {A : Nat → Prop} (hA : ∀ (i : Nat) (o : Oper), ops[i]? = some o → A i → ∀ e ∈ o.after, bindsB e = true → A e.on) :
    ∀ (i : Nat) (o : Oper), ops[i]? = some o → (∀ e ∈ o.after, bindsB e = true → A e.on) → ∀ j, ((masksGo ops []).getD i 0).testBit j = true → A j := by
  intro i
  induction i using Nat.strongRecOn with
  | _ i ih =>
    intro o ho hdep j hj
    obtain ⟨ns, h1, h2, h3⟩ := masksGo_spec (ops := ops) (ms := [])
    have h4 := h3 i o ho
    simp only [List.length_nil, Nat.zero_add] at h4
    rw [List.getD_eq_getElem?_getD, h4, Option.getD_some] at hj
    obtain ⟨e, he1, he2, he3⟩ := maskOf_spec hj
    have he1 : e ∈ o.after := Array.mem_toList_iff.1 he1
    have hlt := edgesGo_spec he i o ho e he1 he2
    rcases he3 with rfl | he3
    · exact hdep e he1 he2
    · have hlt : e.on < i := by omega
      have hoi : e.on < ops.length := by have := (List.getElem?_eq_some_iff.1 ho).1; omega
      have hoe := List.getElem?_eq_getElem hoi
      refine ih e.on hlt _ hoe (hA _ _ hoe (hdep e he1 he2)) j ?_
      rw [List.getD_eq_getElem?_getD, List.getElem?_take, if_pos hlt] at he3
      rw [List.getD_eq_getElem?_getD]; exact he3
def agree (s u : St) : Loc → Prop
  | .slot t => s.V t = u.V t
  | .ob id => s.O id = u.O id
theorem agree.put {s u : St} {l : Loc} (h : agree s u l) (t : Nat) (v : V) : agree (s.put t v) (u.put t v) l := by
  cases l with
  | slot x => simp only [agree, St.V_put] at h ⊢; rw [h]
  | ob x => exact h
theorem agree.putO {s u : St} {l : Loc} (h : agree s u l) (t : Nat) (o : Ob) : agree (s.putO t o) (u.putO t o) l := by
  cases l with
  | slot x => exact h
  | ob x => simp only [agree, St.O_putO] at h ⊢; rw [h]
theorem agree_put_ne {s : St} {l : Loc} {t : Nat} {v : V} (h : l ≠ .slot t) : agree s (s.put t v) l := by
  cases l with
  | slot x => simp only [agree, St.V_put]; rw [if_neg (fun e => h (by rw [e]))]
  | ob x => rfl
theorem agree_putO_ne {s : St} {l : Loc} {t : Nat} {o : Ob} (h : l ≠ .ob t) : agree s (s.putO t o) l := by
  cases l with
  | slot x => rfl
  | ob x => simp only [agree, St.O_putO]; rw [if_neg (fun e => h (by rw [e]))]
theorem agree.trans {s u v : St} {l : Loc} (h : agree s u l) (k : agree u v l) : agree s v l := by cases l <;> exact Eq.trans h k
theorem agree.symm {s u : St} {l : Loc} (h : agree s u l) : agree u s l := by cases l <;> exact Eq.symm h
theorem agree.refl (s : St) (l : Loc) : agree s s l := by cases l <;> rfl
theorem Eqv.agree {s u : St} (h : s.Eqv u) (l : Loc) : PV.agree s u l := by cases l; exact h.1 _; exact h.2 _
theorem eqv_of {s u : St} (h : ∀ l, agree s u l) : s.Eqv u := ⟨fun t => h (.slot t), fun t => h (.ob t)⟩
theorem Runs.frame {p : Pr} {s s' : St} {A B : List Loc} (h : Pr.Runs p s s' A B) : ∀ l, l ∉ B → agree s s' l := by
  induction h with
  | done s => exact fun l _ => .refl s l
  | get h ih => exact ih
  | put h ih => intro l hl; exact (agree_put_ne (fun e => hl (by simp [e]))).trans (ih l (fun e => hl (by simp [e])))
  | getO h ih => exact ih
  | putO h ih => intro l hl; exact (agree_putO_ne (fun e => hl (by simp [e]))).trans (ih l (fun e => hl (by simp [e])))
  | brT e h ih => exact ih
  | brF e h ih => exact ih
  | ex b hb h ih => exact ih
theorem Runs.local {p : Pr} {s s' : St} {A B : List Loc} (h : Pr.Runs p s s' A B) : ∀ {u : St}, (∀ l ∈ A, agree s u l) → ∃ u', Pr.Runs p u u' A B ∧ ∀ l ∈ B, agree s' u' l := by
  induction h with
  | done s => exact fun {u} _ => ⟨u, .done u, fun l hl => by simp at hl⟩
  | @get t k s s' A B h ih =>
    intro u hu
    obtain ⟨u', h1, h2⟩ := ih (u := u) (fun l hl => hu l (by simp [hl]))
    have e : s.V t = u.V t := hu (.slot t) (by simp)
    exact ⟨u', .get (by rw [← e]; exact h1), h2⟩
  | @getO id k s s' A B h ih =>
    intro u hu
    obtain ⟨u', h1, h2⟩ := ih (u := u) (fun l hl => hu l (by simp [hl]))
    have e : s.O id = u.O id := hu (.ob id) (by simp)
    exact ⟨u', .getO (by rw [← e]; exact h1), h2⟩
  | @put t v k s s' A B h ih =>
    intro u hu
    obtain ⟨u', h1, h2⟩ := ih (u := u.put t v) (fun l hl => (hu l hl).put t v)
    refine ⟨u', .put h1, fun l hl => ?_⟩
    by_cases hB : l ∈ B
    · exact h2 l hB
    · have hl : l = .slot t := by simpa [hB] using hl
      subst hl
      have e1 := Runs.frame h _ hB
      have e2 := Runs.frame h1 _ hB
      simp only [agree, St.V_put, if_pos] at e1 e2 ⊢
      rw [← e1, ← e2]
  | @putO t v k s s' A B h ih =>
    intro u hu
    obtain ⟨u', h1, h2⟩ := ih (u := u.putO t v) (fun l hl => (hu l hl).putO t v)
    refine ⟨u', .putO h1, fun l hl => ?_⟩
    by_cases hB : l ∈ B
    · exact h2 l hB
    · have hl : l = .ob t := by simpa [hB] using hl
      subst hl
      have e1 := Runs.frame h _ hB
      have e2 := Runs.frame h1 _ hB
      simp only [agree, St.O_putO, if_pos] at e1 e2 ⊢
      rw [← e1, ← e2]
  | @brT t p q s s' A B e h ih =>
    intro u hu
    obtain ⟨u', h1, h2⟩ := ih (u := u) (fun l hl => hu l (by simp [hl]))
    have e' : s.V t = u.V t := hu (.slot t) (by simp)
    exact ⟨u', .brT (by rw [← e', e]) h1, h2⟩
  | @brF t p q s s' A B e h ih =>
    intro u hu
    obtain ⟨u', h1, h2⟩ := ih (u := u) (fun l hl => hu l (by simp [hl]))
    have e' : s.V t = u.V t := hu (.slot t) (by simp)
    exact ⟨u', .brF (by rw [← e', e]) h1, h2⟩
  | ex b hb h ih =>
    intro u hu
    obtain ⟨u', h1, h2⟩ := ih hu
    exact ⟨u', .ex b hb h1, h2⟩
end Go.PV
