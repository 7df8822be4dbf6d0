/- Part of the proof of LexJoin. -/
import Derived.Test.YtefolkppcdjbpaaDoorLaw09
namespace Go.PV
open Go Go.Proofs
set_option maxRecDepth 100000
theorem kt_at {a b : List Tok} (h : a.map kt = b.map kt) {k : Nat} (hk : k < b.length) (hka : k < a.length) : a[k].k = b[k].k ∧ a[k].t = b[k].t := by
  have h1 : (a.map kt)[k]? = (b.map kt)[k]? := by rw [h]
  rw [List.getElem?_map, List.getElem?_map, List.getElem?_eq_getElem hk, List.getElem?_eq_getElem hka] at h1
  simp only [Option.map_some, Option.some.injEq, Prod.mk.injEq] at h1
  exact h1
theorem lexJoin_good (s : Bs) (more : List Int) (_ : s.length ≤ maxLen) (_ : more.length ≤ maxLen) {p : Int → Prop} (_ : ∀ v ∈ more, p v) : Good Tryd.prog 3 [.str s, .sl 1 (more.map fun n => [.int .i64 n])] [] [.bool true] [] := by
  refine good_of hP Tryd.func3 (by kernel_rfl) (lv := [0, 1, 4, 5, 7, 8, 10, 11, 12, 13, 14, 15, 17, 18, 26, 34, 52, 58, 103, 116, 168]) (js := []) ⟨rfl, rfl, rfl, rfl, rfl, rfl, _, rfl, ?_⟩
  conv => whnf
  refine branch_of (fun h => ?_) (fun h => ?_)
  · conv => whnf
    exact fin0 rfl trivial
  have h := of_decide_eq_false h
  have hs : s.length ≤ 1500 := by omega
  conv => whnf
  refine branch_of (fun h => ?_) (fun hm => ?_)
  · conv => whnf
    exact fin0 rfl trivial
  have hm := of_decide_eq_false hm
  rw [List.length_map] at hm
  conv => whnf
  refine call0 (tokens_good s (by omega)) ?_
  rcases errR_cases s with he | ⟨he, ht, _⟩
  · rw [he]
    have hown := own_R s
    have hch := chain_lens (chain_R s) (Nat.zero_le _)
    have hlen : (toksR s).length ≤ s.length := by
      rcases chain_len (chain_R s) with h | h
      · omega
      · rw [h]; exact Nat.zero_le _
    generalize toksR s = l at *
    have hjl := joinS_len l
    have hj := join_R hown
    conv => whnf
    refine call0 (joinTok_good l (by omega) (by omega)) ?_
    conv => whnf
    refine call0 (tokens_good (joinS l) (by omega)) ?_
    rw [hj.2]
    generalize toksR (joinS l) = K at *
    have hj := hj.1
    have hKl : K.length = l.length := by have := congrArg List.length hj; simpa using this
    conv => whnf
    refine loop_of hP [0, 1, 4, 5, 7, 8, 10, 11, 12, 13, 14, 15, 17, 18, 26, 34, 52, 58, 103, 116, 168] [] [0, 1, 4, 5, 7, 8, 10, 11, 12, 13] [112] [] (fun n st => ∃ (k : Nat) (acc : List (Bs × Tok)), n = l.length - k ∧ k ≤ l.length ∧ acc.map (·.2) = l.take k ∧ (∀ x ∈ acc, x.1 ∈ seps5) ∧
      st = ⟨[(0, .str s), (1, .sl 1 (more.map fun n => [.int .i64 n])), (4, .bool false), (5, .sl 4 (toksV l)), (7, .int .i64 0), (8, .sl 4 (toksV K)), (10, .int .i64 0), (11, .own 112 0), (12, .str (weave acc)), (13, .int .i64 k)], [(112, .arr 0 false 1 (seps5.map fun t => [.str t]))]⟩) l.length ?_ ?_
    · conv => whnf
      exact ⟨0, [], rfl, Nat.zero_le _, rfl, fun x hx => by simp at hx, rfl⟩
    · rintro n st ⟨k, acc, rfl, hk, hacc, hsep, rfl⟩
      have hal : acc.length = k := by have := congrArg List.length hacc; simp at this; omega
      have hwl : (weave acc).length ≤ 9 * acc.length + lens l := by
        have h1 := weave_len fun x hx => len_seps (hsep x hx)
        have h2 : lens (acc.map (·.2)) ≤ lens l := by
          rw [hacc]; unfold lens
          conv => rhs; rw [← List.take_append_drop k l]
          rw [List.map_append, List.sum_append]; omega
        omega
      conv => whnf
      refine branch_of (fun h => ?_) (fun h => ?_)
      · have h := of_decide_eq_true h
        rw [List.length_map] at h
        have hk' : k < l.length := by omega
        have hw1 : IntKind.i64.wrap ((k : Int) + 1) = (k + 1 : Nat) := by rw [wr (by omega) (by omega)]; rfl
        have htl : l[k].t.length ≤ lens l := by
          unfold lens
          conv => rhs; rw [← List.take_append_drop k l, List.drop_eq_getElem_cons hk']
          rw [List.map_append, List.sum_append, List.map_cons, List.sum_cons]; omega
        conv => whnf
        refine branch_of (fun h2 => ?_) (fun h2 => ?_)
        · have h2 := of_decide_eq_true h2
          rw [List.length_map] at h2
          have hk2 : k < more.length := by omega
          conv => whnf
          refine ⟨[.int .i64 more[k]], idxM (f := fun n => [V.int .i64 n]) hk2 rfl, ?_⟩
          conv => whnf
          refine ⟨⟨⟩, by decide, ?_⟩
          obtain ⟨j, hj5, hw⟩ := modk (m := 5) (by omega) (by omega) more[k]
          have hj5 : j < seps5.length := by show j < 5; omega
          conv => whnf
          rw [hw]
          refine ⟨⟨⟩, idxB (f := fun t => [V.str t]) hj5 rfl, ?_⟩
          conv => whnf
          refine ⟨[.str seps5[j]], (idxM (f := fun t => [V.str t]) hj5 rfl).2, ?_⟩
          conv => whnf
          have hsl := len_seps (List.getElem_mem hj5)
          refine ⟨⟨⟩, by dsimp only; omega, ?_⟩
          conv => whnf
          refine ⟨Tok.c l[k], idxM hk' rfl, ?_⟩
          conv => whnf
          refine ⟨⟨⟩, by dsimp only; rw [List.length_append]; omega, ?_⟩
          conv => whnf
          refine ⟨by kernel_rfl, ?_⟩
          conv => whnf
          refine ⟨l.length - (k + 1), by omega, k + 1, acc ++ [(seps5[j], l[k])], rfl, by omega, ?_, ?_, ?_⟩
          · rw [List.map_append, hacc, ← List.take_append_getElem hk']; rfl
          · intro x hx
            rcases List.mem_append.1 hx with hx | hx
            · exact hsep x hx
            · rw [List.mem_singleton.1 hx]; exact List.getElem_mem hj5
          · rw [hw1, weave_app]
            show _ = (⟨[(0, .str s), (1, .sl 1 (more.map fun n => [.int .i64 n])), (4, .bool false), (5, .sl 4 (toksV l)), (7, .int .i64 0), (8, .sl 4 (toksV K)), (10, .int .i64 0), (11, .own 112 0), (12, .str (weave acc ++ (seps5[j] ++ (l[k].t ++ [])))), (13, .int .i64 ((k + 1 : Nat) : Int))], [(112, .arr 0 false 1 (seps5.map fun t => [.str t]))]⟩ : St)
            rw [List.append_nil, ← List.append_assoc]
        · conv => whnf
          have hz : 0 < seps5.length := by decide
          refine ⟨⟨⟩, idxB (f := fun t => [V.str t]) hz rfl, ?_⟩
          conv => whnf
          refine ⟨[.str seps5[0]], (idxM (f := fun t => [V.str t]) hz rfl).2, ?_⟩
          conv => whnf
          have hsl := len_seps (List.getElem_mem hz)
          refine ⟨⟨⟩, by dsimp only; omega, ?_⟩
          conv => whnf
          refine ⟨Tok.c l[k], idxM hk' rfl, ?_⟩
          conv => whnf
          refine ⟨⟨⟩, by dsimp only; rw [List.length_append]; omega, ?_⟩
          conv => whnf
          refine ⟨by kernel_rfl, ?_⟩
          conv => whnf
          refine ⟨l.length - (k + 1), by omega, k + 1, acc ++ [(seps5[0], l[k])], rfl, by omega, ?_, ?_, ?_⟩
          · rw [List.map_append, hacc, ← List.take_append_getElem hk']; rfl
          · intro x hx
            rcases List.mem_append.1 hx with hx | hx
            · exact hsep x hx
            · rw [List.mem_singleton.1 hx]; exact List.getElem_mem hz
          · rw [hw1, weave_app]
            show _ = (⟨[(0, .str s), (1, .sl 1 (more.map fun n => [.int .i64 n])), (4, .bool false), (5, .sl 4 (toksV l)), (7, .int .i64 0), (8, .sl 4 (toksV K)), (10, .int .i64 0), (11, .own 112 0), (12, .str (weave acc ++ (seps5[0] ++ (l[k].t ++ [])))), (13, .int .i64 ((k + 1 : Nat) : Int))], [(112, .arr 0 false 1 (seps5.map fun t => [.str t]))]⟩ : St)
            rw [List.append_nil, ← List.append_assoc]
      · have h := of_decide_eq_false h
        rw [List.length_map] at h
        have hkl : k = l.length := by omega
        have hown2 : ∀ x ∈ acc, Own1 x.2 := fun x hx => by
          refine hown _ (List.mem_of_mem_take (i := k) ?_)
          rw [← hacc]; exact List.mem_map_of_mem (f := fun x : Bs × Tok => x.2) hx
        have hM := woven_R (woven_seps hsep hown2)
        have e3 : acc.map (fun x => kt x.2) = l.map kt := by
          have : acc.map (fun x => kt x.2) = (acc.map (·.2)).map kt := by rw [List.map_map]; rfl
          rw [this, hacc, hkl, List.take_length]
        rw [e3] at hM
        conv => whnf
        refine call0 (tokens_good (weave acc) (by omega)) ?_
        rw [hM.2]
        generalize toksR (weave acc) = M at *
        have hM := hM.1
        have hMl : M.length = l.length := by have := congrArg List.length hM; simpa using this
        have hKV : ((toksV K).length : Int) = (toksV l).length := by rw [List.length_map, List.length_map, hKl]
        have hMV : ((toksV M).length : Int) = (toksV l).length := by rw [List.length_map, List.length_map, hMl]
        conv => whnf
        refine branch_of (fun h2 => ?_) (fun _ => ?_)
        · rw [Bool.not_eq_true'] at h2; exact (of_decide_eq_false h2 hKV).elim
        conv => whnf
        refine branch_of (fun h2 => ?_) (fun _ => ?_)
        · rw [Bool.not_eq_true'] at h2; exact (of_decide_eq_false h2 hMV).elim
        conv => whnf
        refine loop_of hP [0, 1, 4, 5, 7, 8, 10, 11, 12, 13, 14, 15, 17, 18, 26, 34, 52, 58, 103, 116, 168] [] [4, 5, 8, 15, 18] [] [] (fun n st => ∃ (k : Nat), n = l.length - k ∧ k ≤ l.length ∧
          st = ⟨[(4, .bool false), (5, .sl 4 (toksV l)), (8, .sl 4 (toksV K)), (15, .sl 4 (toksV M)), (18, .int .i64 k)], []⟩) l.length ?_ ?_
        · conv => whnf
          exact ⟨0, rfl, Nat.zero_le _, rfl⟩
        · rintro n st ⟨k, rfl, hk, rfl⟩
          conv => whnf
          refine branch_of (fun h => ?_) (fun h => ?_)
          · have h := of_decide_eq_true h
            rw [List.length_map] at h
            have hk' : k < l.length := by omega
            have hkK : k < K.length := by omega
            have hkM : k < M.length := by omega
            have hw1 : IntKind.i64.wrap ((k : Int) + 1) = (k + 1 : Nat) := by rw [wr (by omega) (by omega)]; rfl
            obtain ⟨ek, et⟩ := kt_at hj hk' hkK
            obtain ⟨mk, mt⟩ := kt_at hM hk' hkM
            conv => whnf
            refine ⟨Tok.c K[k], idxM hkK rfl, ?_⟩
            conv => whnf
            refine ⟨Tok.c l[k], idxM hk' rfl, ?_⟩
            conv => whnf
            refine branch_of (fun h2 => ?_) (fun _ => ?_)
            · rw [Bool.not_eq_true'] at h2; exact (of_decide_eq_false h2 ek).elim
            conv => whnf
            refine ⟨Tok.c K[k], idxM hkK rfl, ?_⟩
            conv => whnf
            refine ⟨Tok.c l[k], idxM hk' rfl, ?_⟩
            conv => whnf
            refine branch_of (fun h2 => ?_) (fun _ => ?_)
            · rw [Bool.not_eq_true'] at h2; exact (of_decide_eq_false h2 et).elim
            conv => whnf
            refine ⟨Tok.c M[k], idxM hkM rfl, ?_⟩
            conv => whnf
            refine ⟨Tok.c l[k], idxM hk' rfl, ?_⟩
            conv => whnf
            refine branch_of (fun h2 => ?_) (fun _ => ?_)
            · rw [Bool.not_eq_true'] at h2; exact (of_decide_eq_false h2 mk).elim
            conv => whnf
            refine ⟨Tok.c M[k], idxM hkM rfl, ?_⟩
            conv => whnf
            refine ⟨Tok.c l[k], idxM hk' rfl, ?_⟩
            conv => whnf
            refine ⟨by kernel_rfl, ?_⟩
            conv => whnf
            refine branch_of (fun h2 => ?_) (fun _ => ?_)
            · rw [Bool.not_eq_true'] at h2; exact (of_decide_eq_false h2 mt).elim
            conv => whnf
            refine ⟨l.length - (k + 1), by omega, k + 1, rfl, by omega, ?_⟩
            rw [hw1]
          · conv => whnf
            refine call0 wakes_good ?_
            conv => whnf
            exact fin0 rfl trivial
  · rw [he, ht]
    conv => whnf
    refine call0 wakes_good ?_
    conv => whnf
    exact fin0 rfl trivial
end Go.PV
