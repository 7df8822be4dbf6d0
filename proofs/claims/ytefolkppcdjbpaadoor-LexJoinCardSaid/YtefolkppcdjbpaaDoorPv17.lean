/- Part of the proof of LexJoin. -/
import Derived.Test.YtefolkppcdjbpaaDoorPv16
namespace Go.PV
open Go Go.RowKit
abbrev Logs := List (List Loc × List Loc)
def regAny (P : Program) [Env P] (nt : Nat) (ops : List Oper) : List Oper → St → Logs → (Logs → St → Prop) → Prop
  | [], s, L, K => K L s
  | o :: r, s, L, K => (guardPr P nt ops o).wp s [] [] fun s' A B => regAny P nt ops r s' (L ++ [(A, B)]) K
theorem regAny_trace {P : Program} [Env P] {nt : Nat} {ops : List Oper} {K : Logs → St → Prop} : ∀ {r : List Oper} {s : St} {L : Logs}, regAny P nt ops r s L K → ∃ (M : Logs) (σ : Nat → St), M.length = r.length ∧ σ 0 = s ∧ K (L ++ M) (σ r.length) ∧
    ∀ (i : Nat) (o : Oper), r[i]? = some o → ∃ τ A B, Pr.Runs (guardPr P nt ops o) (σ i) τ A B ∧ τ.Eqv (σ (i + 1)) ∧ (∀ l, l ∈ A → l ∈ (M.getD i ([], [])).1) ∧ (∀ l, l ∈ (M.getD i ([], [])).2 ↔ l ∈ B)
  | [], s, L, h => ⟨[], fun _ => s, rfl, rfl, by simp only [regAny] at h; simpa using h, fun i o hi => by simp at hi⟩
  | o :: r, s, L, h => by
    simp only [regAny] at h
    obtain ⟨s', s'', A, B, h1, h2, h3⟩ := Pr.wp_runs h
    obtain ⟨M, σ, h4, h5, h6, h7⟩ := regAny_trace h3
    refine ⟨(A.reverse ++ [], B.reverse ++ []) :: M, fun | 0 => s | i + 1 => σ i, by simp [h4], rfl, by simpa using h6, fun i o' hi => ?_⟩
    cases i with
    | zero =>
      simp only [List.getElem?_cons_zero, Option.some.injEq] at hi; subst hi
      exact ⟨s', A, B, h1, by dsimp only; rw [h5]; exact h2, fun l hl => by simpa using hl, fun l => by simp⟩
    | succ i => exact h7 i o' (by simpa using hi)
section
variable {n : Nat} {σ : Nat → St} {W : Nat → List Loc}
def lw (W : Nat → List Loc) : Nat → (Nat → Bool) → Loc → Option Nat
  | 0, _, _ => none
  | k + 1, A, l => if A k = true ∧ l ∈ W k then some k else lw W k A l
def pickS (σ : Nat → St) : Option Nat → St
  | none => σ 0
  | some k => σ (k + 1)
theorem lw_eq {A : Nat → Bool} {l : Loc} : ∀ {n i : Nat}, i ≤ n → (∀ j, j < n → l ∈ W j → (A j = true ↔ j < i)) → lw W n A l = lw W i (fun _ => true) l
  | 0, i, hi, _ => by have : i = 0 := by omega
                      subst this; rfl
  | n + 1, i, hi, h => by
    simp only [lw]
    by_cases e : i = n + 1
    · subst e
      simp only [lw]
      by_cases hl : l ∈ W n
      · rw [if_pos ⟨(h n (by omega) hl).2 (by omega), hl⟩, if_pos ⟨trivial, hl⟩]
      · rw [if_neg (fun c => hl c.2), if_neg (fun c => hl c.2)]
        exact lw_eq (Nat.le_refl n) fun j hj hlj => ⟨fun _ => hj, fun _ => (h j (by omega) hlj).2 (by omega)⟩
    · rw [if_neg (fun c => by have := (h n (by omega) c.2).1 c.1; omega)]
      exact lw_eq (by omega) fun j hj hlj => h j (by omega) hlj
theorem lw_ins {A : Nat → Bool} {l : Loc} {i : Nat} (hl : l ∈ W i) (hA : A i = true) : ∀ {n : Nat}, i < n → (∀ j, j < n → i < j → l ∈ W j → A j = false) → lw W n A l = some i
  | 0, hi, _ => by omega
  | n + 1, hi, h => by
    simp only [lw]
    by_cases e : i = n
    · subst e; rw [if_pos ⟨hA, hl⟩]
    · rw [if_neg (fun c => by have := h n (by omega) (by omega) c.2; rw [this] at c; cases c.1)]
      exact lw_ins hl hA (by omega) fun j hj hij hlj => h j (by omega) hij hlj
theorem lw_same {A B : Nat → Bool} {l : Loc} : ∀ {n : Nat}, (∀ j, j < n → l ∈ W j → A j = B j) → lw W n A l = lw W n B l
  | 0, _ => rfl
  | n + 1, h => by
    simp only [lw]
    by_cases hl : l ∈ W n
    · rw [h n (by omega) hl, lw_same fun j hj hlj => h j (by omega) hlj]
    · rw [if_neg (fun c => hl c.2), if_neg (fun c => hl c.2), lw_same fun j hj hlj => h j (by omega) hlj]
theorem canon (hst : ∀ i, i < n → ∀ l, l ∉ W i → agree (σ i) (σ (i + 1)) l) : ∀ i, i ≤ n → ∀ l, agree (σ i) (pickS σ (lw W i (fun _ => true) l)) l
  | 0, _, l => .refl _ l
  | i + 1, hi, l => by
    simp only [lw]
    by_cases hl : l ∈ W i
    · rw [if_pos ⟨trivial, hl⟩]; exact .refl _ l
    · rw [if_neg (fun c => hl c.2)]
      exact (hst i (by omega) l hl).symm.trans (canon hst i (by omega) l)
end
/-- one step, wherever it comes -/
theorem any_step {P : Program} [Env P] {nt : Nat} {ops : List Oper} {M : Logs} {σ : Nat → St} (hchk : chk ops M = true)
    (htr : ∀ (i : Nat) (o : Oper), ops[i]? = some o → ∃ τ A B, Pr.Runs (guardPr P nt ops o) (σ i) τ A B ∧ τ.Eqv (σ (i + 1)) ∧ (∀ l, l ∈ A → l ∈ (M.getD i ([], [])).1) ∧ (∀ l, l ∈ (M.getD i ([], [])).2 ↔ l ∈ B))
    {A : Nat → Bool} (hA : ∀ (i : Nat) (o : Oper), ops[i]? = some o → A i = true → ∀ e ∈ o.after, bindsB e = true → A e.on = true) {u : St} (hu : ∀ l, agree u (pickS σ (lw (fun i => (M.getD i ([], [])).2) ops.length A l)) l)
    {i : Nat} {o : Oper} (ho : ops[i]? = some o) (hi : A i = false) (hd : ∀ e ∈ o.after, bindsB e = true → A e.on = true) {A' : Nat → Bool} (hA' : ∀ j, A' j = (if j = i then true else A j)) :
    ∃ u' X Y, Pr.Runs (guardPr P nt ops o) u u' X Y ∧ ∀ l, agree u' (pickS σ (lw (fun i => (M.getD i ([], [])).2) ops.length A' l)) l := by
  simp only [chk, Bool.and_eq_true] at hchk
  obtain ⟨he, hp⟩ := hchk
  have hin := (List.getElem?_eq_some_iff.1 ho).1
  have pair : ∀ j k, j < k → k < ops.length → ((masksGo ops []).getD k 0).testBit j = true ∨ noconf (M.getD j ([], [])) (M.getD k ([], [])) = true := by
    intro j k hjk hk
    have := List.all_eq_true.1 (List.all_eq_true.1 hp k (by simpa using hk)) j (by simpa using hjk)
    simpa using this
  have nc : ∀ {x y : List Loc × List Loc}, noconf x y = true → (∀ l ∈ x.2, l ∉ y.1) ∧ (∀ l ∈ x.2, l ∉ y.2) ∧ ∀ l ∈ y.2, l ∉ x.1 := by
    intro x y h
    simp only [noconf, Bool.and_eq_true] at h
    exact ⟨noneIn_spec h.1.1, noneIn_spec h.1.2, noneIn_spec h.2⟩
  have below : ∀ j, j < i → A j = false → noconf (M.getD j ([], [])) (M.getD i ([], [])) = true := by
    intro j hj hAj
    rcases pair j i hj hin with h | h
    · have := mask_closed (A := fun j => A j = true) he hA i o ho hd j h
      rw [hAj] at this; cases this
    · exact h
  have above : ∀ j, i < j → j < ops.length → A j = true → noconf (M.getD i ([], [])) (M.getD j ([], [])) = true := by
    intro j hj hjn hAj
    rcases pair i j hj hjn with h | h
    · have hoj := List.getElem?_eq_getElem hjn
      have := mask_closed (A := fun j => A j = true) he hA j _ hoj (hA j _ hoj hAj) i h
      rw [hi] at this; cases this
    · exact h
  obtain ⟨τ, X, Y, hrun, heq, hX, hY⟩ := htr i o ho
  have hst : ∀ i, i < ops.length → ∀ l, l ∉ (M.getD i ([], [])).2 → agree (σ i) (σ (i + 1)) l := by
    intro k hk l hl
    obtain ⟨τ', X', Y', h1, h2, h3, h4⟩ := htr k _ (List.getElem?_eq_getElem hk)
    exact (Runs.frame h1 l (fun hc => hl ((h4 l).2 hc))).trans (Eqv.agree h2 l)
  have hread : ∀ l ∈ X, agree (σ i) u l := by
    intro l hl
    have hlM := hX l hl
    have hlw : lw (fun i => (M.getD i ([], [])).2) ops.length A l = lw (fun i => (M.getD i ([], [])).2) i (fun _ => true) l := by
      refine lw_eq (by omega) fun j hj hlj => ⟨fun hAj => ?_, fun hji => ?_⟩
      · rcases Nat.lt_trichotomy j i with h | h | h
        · exact h
        · subst h; rw [hi] at hAj; cases hAj
        · exact absurd hlM ((nc (above j h hj hAj)).2.2 l hlj)
      · cases hAj : A j with
        | true => rfl
        | false => exact absurd hlM ((nc (below j hji hAj)).1 l hlj)
    have h1 := canon (n := ops.length) (W := fun i => (M.getD i ([], [])).2) hst i (by omega) l
    have h2 := hu l
    rw [hlw] at h2
    exact h1.trans h2.symm
  obtain ⟨u', h1, h2⟩ := Runs.local hrun hread
  refine ⟨u', X, Y, h1, fun l => ?_⟩
  by_cases hl : l ∈ Y
  · have hlM := (hY l).2 hl
    rw [lw_ins (W := fun i => (M.getD i ([], [])).2) hlM (by rw [hA', if_pos rfl]) hin (fun j hj hij hlj => by
      rw [hA', if_neg (by omega)]
      cases hAj : A j with
      | false => rfl
      | true => exact absurd hlj ((nc (above j hij hj hAj)).2.1 l hlM))]
    exact (h2 l hl).symm.trans (Eqv.agree heq l)
  · have hlM : l ∉ (M.getD i ([], [])).2 := fun hc => hl ((hY l).1 hc)
    rw [lw_same (B := A) (fun j hj hlj => by rw [hA', if_neg (fun e => by subst e; exact hlM hlj)])]
    exact (Runs.frame h1 l hl).symm.trans (hu l)
/-- a region that draws its order -/
theorem regAny_ok {P : Program} [Env P] {nt : Nat} {opsA : Array Oper} {E : Ent} {Q : Exit → Act → World → Prop} {K : St → Prop} (hnt : E.ok P nt) (hQ : ∀ s' a' w', K s' → R E s' a' w' → Q .normal a' w') {s : St} {a : Act} {w : World} (hR : R E s a w)
    (h : regAny P nt opsA.toList opsA.toList s [] fun L s' => chk opsA.toList L = true ∧ ∀ s'', s'.Eqv s'' → K s'') : wpAny P .any opsA Q opsA.size (Array.replicate opsA.size false) a w := by
  obtain ⟨M, σ, hlen, h0, ⟨hchk, hK⟩, htr⟩ := regAny_trace h
  simp only [List.nil_append] at hchk
  have hedge : edgesGo opsA.toList 0 = true := by simp only [chk, Bool.and_eq_true] at hchk; exact hchk.1
  have hst : ∀ i, i < opsA.toList.length → ∀ l, l ∉ (M.getD i ([], [])).2 → agree (σ i) (σ (i + 1)) l := by
    intro k hk l hl
    obtain ⟨τ', X', Y', h1, h2, h3, h4⟩ := htr k _ (List.getElem?_eq_getElem hk)
    exact (Runs.frame h1 l (fun hc => hl ((h4 l).2 hc))).trans (Eqv.agree h2 l)
  have main : ∀ (fuel : Nat) (listed : Array Bool) (u : St) (a : Act) (w : World), listed.size = opsA.size → listed.count false = fuel →
      (∀ (i : Nat) (o : Oper), opsA.toList[i]? = some o → listed.getD i false = true → ∀ e ∈ o.after, bindsB e = true → listed.getD e.on false = true) →
      (∀ l, agree u (pickS σ (lw (fun i => (M.getD i ([], [])).2) opsA.toList.length (fun i => listed.getD i false) l)) l) → R E u a w → wpAny P .any opsA Q fuel listed a w := by
    intro fuel
    induction fuel with
    | zero =>
      intro listed u a w hsz hcnt hdown hu hR
      have hall : ∀ i, i < listed.size → listed.getD i false = true := by
        intro i hi
        cases hb : listed.getD i false with
        | true => rfl
        | false =>
          have : false ∈ listed := by
            rw [Array.getD_eq_getD_getElem?, Array.getElem?_eq_getElem hi] at hb
            simp only [Option.getD_some] at hb
            rw [← hb]; exact Array.getElem_mem hi
          have := Array.count_pos_iff.2 this
          omega
      refine ⟨?_, ?_⟩
      · cases hr : Region.ready .any opsA listed with
        | nil => rfl
        | cons j _ =>
          have hj : j ∈ Region.ready .any opsA listed := by rw [hr]; simp
          obtain ⟨h1, o, h2, _⟩ := mem_ready.1 hj
          have hjl : j < listed.size := by rw [hsz]; exact (Array.getElem?_eq_some_iff.1 h2).1
          have := hall j hjl
          rw [Array.getD_eq_getD_getElem?, Array.getElem?_eq_getElem hjl] at this h1
          simp only [Option.getD_some] at this h1
          rw [h1] at this; cases this
      · refine hQ u a w (hK u ?_) hR
        refine eqv_of fun l => ?_
        have h1 := canon (n := opsA.toList.length) (W := fun i => (M.getD i ([], [])).2) hst opsA.toList.length (Nat.le_refl _) l
        have h2 := hu l
        rw [lw_same (B := fun _ => true) (fun j hj _ => hall j (by rw [hsz]; simpa using hj))] at h2
        exact h1.trans h2.symm
    | succ fuel ih =>
      intro listed u a w hsz hcnt hdown hu hR
      refine ⟨fun hnil => ?_, fun i hi => ?_⟩
      · exfalso
        have hmem : false ∈ listed := Array.count_pos_iff.1 (by omega)
        -- the least that is not listed is ready
        have key : ∀ k, k ≤ listed.size → ∀ j, j < k → listed.getD j false = true := by
          intro k
          induction k with
          | zero => intro _ j hj; omega
          | succ k ihk =>
            intro hk j hj
            by_cases e : j = k
            · subst e
              cases hb : listed.getD j false with
              | true => rfl
              | false =>
                have hjn : j < opsA.size := by omega
                have hoj := Array.getElem?_eq_getElem hjn
                have : j ∈ Region.ready .any opsA listed := by
                  refine mem_ready.2 ⟨?_, _, hoj, fun e he hbd => ?_⟩
                  · rw [Array.getD_eq_getD_getElem?, Array.getElem?_eq_getElem (by omega)] at hb ⊢; exact hb
                  · have := edgesGo_spec hedge j _ (by rw [Array.getElem?_toList]; exact hoj) e he hbd
                    exact ihk (by omega) e.on (by omega)
                rw [hnil] at this; cases this
            · exact ihk (by omega) j (by omega)
        obtain ⟨j, hj, hjv⟩ := Array.mem_iff_getElem.1 hmem
        have := key listed.size (Nat.le_refl _) j hj
        rw [Array.getD_eq_getD_getElem?, Array.getElem?_eq_getElem hj, Option.getD_some, hjv] at this; cases this
      · obtain ⟨h1, o, h2, h3⟩ := mem_ready.1 hi
        have hil : i < listed.size := by rw [hsz]; exact (Array.getElem?_eq_some_iff.1 h2).1
        have hif : listed.getD i false = false := by
          rw [Array.getD_eq_getD_getElem?, Array.getElem?_eq_getElem hil] at h1 ⊢; exact h1
        have hset : ∀ j, (listed.setIfInBounds i true).getD j false = (if j = i then true else listed.getD j false) := by
          intro j
          simp only [Array.getD_eq_getD_getElem?, Array.getElem?_setIfInBounds]
          by_cases e : i = j
          · subst e; simp [hil]
          · rw [if_neg e, if_neg (Ne.symm e)]
        obtain ⟨u', X, Y, hrun, hu'⟩ := any_step hchk htr (A := fun i => listed.getD i false) hdown hu (by rw [Array.getElem?_toList]; exact h2) hif h3 (A' := fun j => (listed.setIfInBounds i true).getD j false) hset
        obtain ⟨G, hR⟩ := hR
        refine guard_ok hnt hR h2 hrun.mwp fun s1 a' w' e hR' => ?_
        subst e
        refine ih _ _ _ _ (by simpa using hsz) ?_ (fun k ok hk hlk e he hbd => ?_) hu' hR'
        · have hc := Array.count_set (xs := listed) (i := i) (b := false) (a := true) hil
          rw [Array.setIfInBounds, dif_pos hil, hc]
          have hv : listed[i] = false := by rw [Array.getD_eq_getD_getElem?, Array.getElem?_eq_getElem hil] at hif; exact hif
          simp [hv]; omega
        · rw [hset] at hlk ⊢
          split
          · rfl
          · split at hlk
            · rename_i e2 e1
              subst e1
              rw [Array.getElem?_toList, h2] at hk; cases hk
              exact h3 e he hbd
            · exact hdown k ok hk hlk e he hbd
  refine main opsA.size _ s a w (by simp) (by simp) (fun i o hi hl => ?_) (fun l => ?_) hR
  · exfalso
    rw [Array.getD_eq_getD_getElem?, Array.getElem?_replicate] at hl
    split at hl <;> cases hl
  · have : ∀ n, lw (fun i => (M.getD i ([], [])).2) n (fun i => (Array.replicate opsA.size false).getD i false) l = none := by
      intro n
      induction n with
      | zero => rfl
      | succ n ih =>
        simp only [lw]
        rw [if_neg (fun c => by
          have := c.1
          rw [Array.getD_eq_getD_getElem?, Array.getElem?_replicate] at this
          split at this <;> cases this)]
        exact ih
    rw [this]
    simp only [pickS]; rw [h0]; exact .refl _ _
end Go.PV
