/- Part of the proof. -/
import Derived.Test.YtfdopmapaaagoaaGreatDoorM2
import Derived.Test.YtfdopmapaaagoaaGreatDoorProg
import Derived.Test.YtfdopmapaaagoaaGreatDoorShelf
import Derived.WalkSmall
import Derived.Lib.SmallJoins
import Derived.Lib.Join
set_option linter.unusedVariables false
set_option linter.unusedSimpArgs false
namespace Go.PV
open Go
/-! laws of signs -/
/-- each sign stands at its place, one behind the other -/
def Chain (s : Bs) : Nat → List Tok → Prop
  | _, [] => True
  | lo, t :: ts => ∃ i, lo ≤ i ∧ i + t.t.length ≤ s.length ∧ 1 ≤ t.t.length ∧ t.p = posS (s.take i) ∧ t.t = (s.drop i).take t.t.length ∧ Chain s (i + t.t.length) ts
theorem chain_len {s : Bs} : ∀ {l : List Tok} {lo : Nat}, Chain s lo l → lo + l.length ≤ s.length ∨ l = []
  | [], lo, _ => .inr rfl
  | t :: ts, lo, h => by
    obtain ⟨i, h1, h2, h3, _, _, h6⟩ := h
    left
    rcases chain_len h6 with h | h
    · simp only [List.length_cons]; omega
    · subst h; simp only [List.length_cons, List.length_nil]; omega
theorem takeWhile_len {p : UInt8 → Bool} (s : Bs) : (s.takeWhile p).length ≤ s.length := (List.takeWhile_prefix _).length_le
theorem textGo_le : ∀ (s : Bs) (i : Nat), textGo i s ≤ i + s.length
  | [], i => by simp [textGo]
  | [c], i => by simp only [textGo]; split <;> simp
  | c :: d :: r, i => by
    have h1 := textGo_le (d :: r) (i + 1)
    have h2 := textGo_le r (i + 2)
    rw [textGo]
    simp only [List.length_cons] at h1 ⊢
    split
    · omega
    · split
      · omega
      · split <;> omega
theorem textS_le (s : Bs) (h : s ≠ []) : textS s ≤ s.length := by
  have := textGo_le (s.drop 1) 1
  have hl : 0 < s.length := List.length_pos_iff.2 h
  rw [List.length_drop] at this
  unfold textS; omega
theorem hasP_len {s p : Bs} (h : hasP s p = true) : p.length ≤ s.length := by simp [hasP] at h; exact h.1
theorem signS_le (s : Bs) : signS s ≤ s.length := by
  unfold signS
  split
  · rename_i h
    have : ∀ a b : UInt8, hasP s [a, b] = true → 2 ≤ s.length := fun a b h => by simpa using hasP_len h
    rcases h with h | h | h | h <;> exact this _ _ h
  · cases s with
    | nil => simp
    | cons c r => dsimp only; split <;> simp
theorem nextS_le (s : Bs) : (nextS s).2.1 ≤ s.length := by
  cases s with
  | nil => simp [nextS]
  | cons c r =>
    have h1 := takeWhile_len (p := letterB) (c :: r)
    have h2 := takeWhile_len (p := digitB) r
    have h3 := textS_le (c :: r) (by simp)
    have h4 := signS_le (c :: r)
    simp only [nextS]
    split
    · exact h1
    · split
      · simp only [List.length_cons]; omega
      · split
        · exact h3
        · exact h4
theorem nextS_pos {s : Bs} (h : (nextS s).2.2 = true) : 1 ≤ (nextS s).2.1 := by
  cases s with
  | nil => simp [nextS] at h
  | cons c r =>
    simp only [nextS] at h ⊢
    split
    · rename_i h1
      have : letterB c = true := by simp [letterB]; rcases h1 with h1 | h1 <;> simp [h1]
      rw [List.takeWhile_cons, if_pos this]; simp
    · rename_i h1
      rw [if_neg h1] at h
      split
      · simp
      · rename_i h2
        rw [if_neg h2] at h
        split
        · rename_i h3
          rw [if_pos h3] at h
          simp at h; exact h.1
        · rename_i h3
          rw [if_neg h3] at h
          exact of_decide_eq_true h
theorem blanksN_le : ∀ (b : Bool) (s : Bs), blanksN b s ≤ s.length
  | _, [] => by simp [blanksN]
  | true, c :: r => by
    have h1 := blanksN_le true r
    have h2 := blanksN_le false r
    simp only [blanksN, List.length_cons]; split <;> omega
  | false, c :: r => by
    have h1 := blanksN_le true r
    have h2 := blanksN_le false r
    simp only [blanksN, List.length_cons]; split
    · omega
    · split <;> omega
theorem chain_go (s : Bs) : ∀ (f lo i : Nat), lo ≤ i → Chain s lo (toksGo s f i).1 ∧ ∀ p, (toksGo s f i).2 = some p → ∃ k, k < s.length ∧ p = posS (s.take k)
  | 0, lo, i, h => ⟨trivial, fun p e => by simp [toksGo] at e⟩
  | f + 1, lo, i, h => by
    rw [toksGo]
    split
    · rename_i hi
      have hn := nextS_le (s.drop i)
      rw [List.length_drop] at hn
      dsimp only
      split
      · rename_i hx
        have hp := nextS_pos hx
        obtain ⟨h1, h2⟩ := chain_go s f (i + (nextS (s.drop i)).2.1) (i + (nextS (s.drop i)).2.1 + blanksN false (s.drop (i + (nextS (s.drop i)).2.1))) (by omega)
        have hl : ((s.drop i).take (nextS (s.drop i)).2.1).length = (nextS (s.drop i)).2.1 := by simp; omega
        exact ⟨⟨i, h, by rw [hl]; omega, by rw [hl]; exact hp, rfl, by rw [hl], by rw [hl]; exact h1⟩, h2⟩
      · refine ⟨trivial, fun p e => ?_⟩
        simp only [Option.some.injEq] at e
        exact ⟨i, hi, e.symm⟩
    · exact ⟨trivial, fun p e => by simp at e⟩
theorem chain_toks (s : Bs) : Chain s 0 (toksS s).1 := (chain_go s _ 0 _ (Nat.zero_le _)).1
def toksR (s : Bs) : List Tok := if (toksS s).2.isSome then [] else (toksS s).1
def errR (s : Bs) : Int := if (toksS s).2.isSome then 6 else 0
def posR (s : Bs) : Int × Int := (toksS s).2.getD (0, 0)
theorem chain_R (s : Bs) : Chain s 0 (toksR s) := by unfold toksR; split; exact trivial; exact chain_toks s
end Go.PV
namespace Go.PV
open Go Go.Proofs Go.RowKit
theorem hP : Tryz.prog.follows .mixedOrders = true := by kernel_rfl
noncomputable def gi (n : String) : Nat := match Tryz.prog.globalNamed n with
  | some g => g + 1
  | none => 0
/-- so many blocks hold all the package variables that are read -/
noncomputable def nGlob : Nat := max (gi "internal/strconv.uint64pow10") (max (gi "strconv.ErrSyntax") (gi "strconv.ErrRange"))
theorem gi_le {w : World} {n : String} {cs : Array Value} {v : Value} (hv : w.var? Tryz.prog n = some cs) (h0 : cs[0]? = some v) : gi n ≤ w.heap.size := by
  unfold gi
  split
  · rename_i g hg
    exact World.block_lt_of_cell? w ⟨g, 0, none⟩ ((World.var?_cell hg hv 0).trans h0)
  · omega
noncomputable def inG (n : String) : Bool := match Tryz.prog.globalNamed n with
  | some g => Nat.blt g nGlob
  | none => true
theorem var_same {w w' : World} {n : String} (hn : inG n = true) (h : ∀ k, k < nGlob → w'.heap[k]? = w.heap[k]?) : w'.var? Tryz.prog n = w.var? Tryz.prog n := by
  unfold inG at hn
  unfold World.var?
  split at hn
  · rename_i g hg
    simp only [hg, Option.bind_some]
    rw [h g (by have := hn; simp [Nat.blt] at this; omega)]
  · rename_i hg
    simp [hg]
def LaidZ (w : World) : Prop := Lib.TabIs Tryz.prog w "internal/strconv.uint64pow10" .u64 Lib.pow10Tab ∧ (∃ tp p, w.var? Tryz.prog "strconv.ErrSyntax" = some #[.iface tp p]) ∧ (∃ tp p, w.var? Tryz.prog "strconv.ErrRange" = some #[.iface tp p])
theorem in_pow : inG "internal/strconv.uint64pow10" = true := by kernel_rfl
theorem in_syn : inG "strconv.ErrSyntax" = true := by kernel_rfl
theorem in_ran : inG "strconv.ErrRange" = true := by kernel_rfl
theorem glob_size {w : World} (h : LaidZ w) : nGlob ≤ w.heap.size := by
  obtain ⟨h1, ⟨a, b, h2⟩, ⟨c, d, h3⟩⟩ := h
  have e1 := gi_le (v := .int .u64 1) h1 (by kernel_rfl)
  have e2 := gi_le h2 rfl
  have e3 := gi_le h3 rfl
  unfold nGlob; omega
noncomputable instance : Env Tryz.prog where
  ng := nGlob
  Z := LaidZ
  hand := fun f => Nat.beq f 133
  st := fun w w' h hz => by
    obtain ⟨h1, ⟨a, b, h2⟩, ⟨c, d, h3⟩⟩ := hz
    exact ⟨by unfold Lib.TabIs; rw [var_same in_pow h]; exact h1, ⟨a, b, by rw [var_same in_syn h]; exact h2⟩, ⟨c, d, by rw [var_same in_ran h]; exact h3⟩⟩
theorem indexByte_good (s : List UInt8) (c : UInt8) : Good Tryz.prog 159 [.str s, .int .u8 c.toNat] [] [.int .i64 (Lib.indexByte s c)] [] := by
  refine good_of_calls Tryz.func159 (by kernel_rfl) (by kernel_rfl) rfl fun vs w G hc hz => ?_
  obtain ⟨v, u, rfl, h1, h2⟩ := cells2 hc
  cases h1.str_eq; cases h2.int_eq
  refine (Tryz.strings_IndexByte _ _ w).mono fun e w' h => ?_
  obtain ⟨h3, rfl⟩ := h
  refine ⟨_, h3, ?_, Below.refl _ _⟩
  have : ((c.toNat : Int).toNat.toUInt8) = c := by simp
  rw [this]
  exact .int _ _
theorem itoa_good (n : Int) (h0 : -9223372036854775808 ≤ n) (h1 : n ≤ 9223372036854775807) : Good Tryz.prog 111 [.int .i64 n] [] [.str (Lib.itoa n)] [] := by
  refine good_of_calls Tryz.func111 (by kernel_rfl) (by kernel_rfl) rfl fun vs w G hc hz => ?_
  obtain ⟨v, rfl, h2⟩ := cells1 hc
  cases h2.int_eq
  refine (Tryz.strconv_Itoa n h0 h1 w hz.1).mono fun e w' h => ?_
  obtain ⟨h3, k, os, rfl⟩ := h
  refine ⟨_, h3, .str _, ?_⟩
  exact ⟨rfl, rfl, rfl, by simp [Sort.grow, World.drewN], fun i hi => by
    show (w.heap ++ os)[i]? = w.heap[i]?
    rw [Array.getElem?_append, if_pos hi]⟩
theorem atoi_good (s : List UInt8) (hs : s.length ≤ 281474976710656) : Good Tryz.prog 217 [.str s] [] [.int .i64 (atoiN s), errV (atoiOk s)] [] := by
  have hok : ([.int .i64 (atoiN s), errV (atoiOk s)] : List V).all (okA 0) = true := by cases h : atoiOk s <;> simp [errV, okA, okC, okB]
  refine good_of_calls Tryz.func217 (by kernel_rfl) (by kernel_rfl) hok fun vs w G hc hz => ?_
  obtain ⟨v, rfl, h2⟩ := cells1 hc
  cases h2.str_eq
  have hsz : (⟨s.toArray⟩ : ByteArray).size = s.length := by simp [ByteArray.size]
  cases h : Lib.atoiAll s with
  | ok v =>
    have e1 : atoiN s = v := by unfold atoiN; rw [h]
    have e2 : atoiOk s = true := by unfold atoiOk; rw [h]
    rw [e1, e2]
    refine (Tryz.strconv_Atoi_ok _ (by omega) v h w).mono fun e w' hh => ?_
    obtain ⟨h3, h4⟩ := hh
    refine ⟨_, h3, ⟨_, rfl, .two (.int _ _) .nili⟩, ?_⟩
    rcases h4 with rfl | ⟨t, rfl⟩
    · exact Below.refl _ _
    · exact Lib.bytesWorld_below _ _ _
  | «syntax» =>
    have e1 : atoiN s = 0 := by unfold atoiN; rw [h]
    have e2 : atoiOk s = false := by unfold atoiOk; rw [h]
    rw [e1, e2]
    obtain ⟨_, ⟨tp, p, hv⟩, _⟩ := hz
    refine (Tryz.strconv_Atoi_syntax_var _ (by omega) h tp p w hv).mono fun e w' hh => ?_
    obtain ⟨N, h3, _, _, h4⟩ := hh
    exact ⟨_, h3, ⟨_, rfl, .two (.int _ _) (.ifc _ _)⟩, h4⟩
  | range =>
    have e1 : atoiN s = Lib.atoiSat s := by unfold atoiN; rw [h]
    have e2 : atoiOk s = false := by unfold atoiOk; rw [h]
    rw [e1, e2]
    obtain ⟨_, _, ⟨tp, p, hv⟩⟩ := hz
    refine (Tryz.strconv_Atoi_range_var _ (by omega) h tp p w hv).mono fun e w' hh => ?_
    obtain ⟨N, h3, _, _, h4⟩ := hh
    exact ⟨_, h3, ⟨_, rfl, .two (.int _ _) (.ifc _ _)⟩, h4⟩
theorem join_good (l : List (List UInt8)) (sep : List UInt8) (h1 : l.length ≤ 140737488355328) (h2 : (Lib.join l sep).length ≤ 140737488355328) :
    Good Tryz.prog 112 [.sl 1 (l.map fun x => [.str x]), .str sep] [] [.str (Lib.join l sep)] [] := by
  refine good_of_calls Tryz.func112 (by kernel_rfl) (by kernel_rfl) rfl fun vs w G hc hz => ?_
  obtain ⟨v, u, rfl, h3, h4⟩ := cells2 hc
  cases h4.str_eq
  rcases h3.strs_eq with ⟨rfl, a, c, rfl⟩ | ⟨b, off, cap, rfl, hcap, hc⟩
  · refine (Tryz.strings_Join_none a c _ w).mono fun e w' h => ?_
    obtain ⟨h5, rfl⟩ := h
    exact ⟨_, h5, .str _, Below.refl _ _⟩
  · by_cases hl : l = []
    · subst hl
      refine (Tryz.strings_Join_none _ _ _ w).mono fun e w' h => ?_
      obtain ⟨h5, rfl⟩ := h
      exact ⟨_, h5, .str _, Below.refl _ _⟩
    · have hb : b < w.heap.size := by
        obtain ⟨x, r, rfl⟩ := List.exists_cons_of_ne_nil hl
        exact World.block_lt_of_cell? w ⟨b, off + 0, none⟩ (hc 0 x rfl)
      have e1 : (l.map fun x => (⟨x.toArray⟩ : ByteArray)).map (·.data.toList) = l := by
        rw [List.map_map]; exact (List.map_congr_left fun x _ => by simp).trans (List.map_id' l)
      have := Tryz.strings_Join b off cap (l.map fun x => ⟨x.toArray⟩) ⟨sep.toArray⟩ w (fun j x hj => by
        rw [List.getElem?_map] at hj
        cases hx : l[j]? with
        | none => rw [hx] at hj; simp at hj
        | some y => rw [hx] at hj; simp at hj; subst hj; exact hc j y hx) hb (by simpa using h1) (by simpa using hcap) (by rw [e1]; exact h2)
      rw [e1, List.length_map] at this
      refine this.mono fun e w' h => ?_
      exact ⟨_, h.1, .str _, h.2⟩
end Go.PV
namespace Go.PV
open Go Go.Proofs
set_option maxRecDepth 100000
theorem vsmall_good (c : UInt8) : Good Tryz.prog 231 [.int .u8 c.toNat] [] [.bool (smallB c)] [] := by
  refine good_of hP Tryz.func231 (by kernel_rfl) (lv := [0, 2]) (js := []) ⟨rfl, rfl, rfl, rfl, rfl, rfl, _, rfl, ?_⟩
  repeat' (conv => whnf); refine branch_of (fun _ => ?_) (fun _ => ?_)
  all_goals (conv => whnf); exact fin0 (by simp_all [smallB, inB] <;> first | omega | (rw [Bool.eq_iff_iff]; simp; omega)) trivial
theorem vlarge_good (c : UInt8) : Good Tryz.prog 232 [.int .u8 c.toNat] [] [.bool (largeB c)] [] := by
  refine good_of hP Tryz.func232 (by kernel_rfl) (lv := [0, 2]) (js := []) ⟨rfl, rfl, rfl, rfl, rfl, rfl, _, rfl, ?_⟩
  repeat' (conv => whnf); refine branch_of (fun _ => ?_) (fun _ => ?_)
  all_goals (conv => whnf); exact fin0 (by simp_all [largeB, inB] <;> first | omega | (rw [Bool.eq_iff_iff]; simp; omega)) trivial
theorem vdigit_good (c : UInt8) : Good Tryz.prog 216 [.int .u8 c.toNat] [] [.bool (digitB c)] [] := by
  refine good_of hP Tryz.func216 (by kernel_rfl) (lv := [0, 2]) (js := []) ⟨rfl, rfl, rfl, rfl, rfl, rfl, _, rfl, ?_⟩
  repeat' (conv => whnf); refine branch_of (fun _ => ?_) (fun _ => ?_)
  all_goals (conv => whnf); exact fin0 (by simp_all [digitB, inB] <;> first | omega | (rw [Bool.eq_iff_iff]; simp; omega)) trivial
theorem plain_good (s : Bs) (hs : s.length ≤ 4611686018427387904) : Good Tryz.prog 204 [.str s] [] [.bool (plainS s)] [] := by
  refine good_of hP Tryz.func204 (by kernel_rfl) (lv := [0, 2, 3, 5, 6, 7, 18]) (js := []) ⟨rfl, rfl, rfl, rfl, rfl, rfl, _, rfl, ?_⟩
  conv => whnf
  refine loop_of hP [0, 2, 3, 5, 6, 7, 18] [] [0, 2, 5, 6] [] [] (fun n st => ∃ k : Nat, n = s.length - k ∧ k ≤ s.length ∧ s.all plainB = (s.drop k).all plainB ∧ st = ⟨[(0, .str s), (2, .bool false), (5, .int .i64 s.length), (6, .int .i64 k)], []⟩) s.length ?_ ?_
  · conv => whnf
    exact ⟨0, rfl, Nat.zero_le _, rfl, rfl⟩
  · rintro n st ⟨k, rfl, hk, he, rfl⟩
    conv => whnf
    refine branch_of (fun h => ?_) (fun h => ?_)
    · conv => whnf
      have hk' : k < s.length := by simpa using h
      rw [all_drop hk'] at he
      refine ⟨s[k], ⟨by omega, by simp [hk']⟩, ?_⟩
      conv => whnf
      refine branch_of (fun h1 => ?_) (fun h1 => ?_)
      · conv => whnf
        refine fin0 ?_ trivial
        have : plainB s[k] = false := by simp only [plainB, inB_no]; simp at h1; omega
        rw [plainS, he, this]; simp
      · conv => whnf
        refine ⟨s[k], ⟨by omega, by simp [hk']⟩, ?_⟩
        conv => whnf
        refine branch_of (fun h2 => ?_) (fun h2 => ?_)
        · conv => whnf
          refine fin0 ?_ trivial
          have : plainB s[k] = false := by simp only [plainB, inB_no]; simp at h2; omega
          rw [plainS, he, this]; simp
        · conv => whnf
          have : plainB s[k] = true := by simp only [plainB, inB_iff]; simp at h1 h2; omega
          rw [this, Bool.true_and] at he
          refine ⟨s.length - (k + 1), by omega, k + 1, rfl, by omega, he, ?_⟩
          rw [wr (by omega) (by omega)]; rfl
    · conv => whnf
      refine fin0 ?_ trivial
      have : s.drop k = [] := by simp at h; exact List.drop_eq_nil_iff.2 (by omega)
      rw [plainS, he, this]; simp; omega
theorem symbol_good (s : Bs) (hs : s.length ≤ 4611686018427387904) : Good Tryz.prog 203 [.str s] [] [.bool (symbolS s)] [] := by
  refine good_of hP Tryz.func203 (by kernel_rfl) (lv := [0, 2, 3, 17, 19, 20, 21, 47]) (js := []) ⟨rfl, rfl, rfl, rfl, rfl, rfl, _, rfl, ?_⟩
  conv => whnf
  refine branch_of (fun h0 => ?_) (fun h0 => ?_)
  · conv => whnf
    refine fin0 ?_ trivial
    have : s = [] := by simp at h0; exact List.eq_nil_of_length_eq_zero (by omega)
    subst this; rfl
  conv => whnf
  refine branch_of (fun h1 => ?_) (fun h1 => ?_)
  · conv => whnf
    refine fin0 ?_ trivial
    have : decide (s.length ≤ 24) = false := by simp at h1 ⊢; omega
    simp [symbolS, this]
  conv => whnf
  have h0' : 0 < s.length := by simp at h0; omega
  have h1' : s.length ≤ 24 := by simp at h1; omega
  refine ⟨s[0], ⟨by omega, by simp [h0']⟩, ?_⟩
  conv => whnf
  refine call0 (vsmall_good _) ?_
  conv => whnf
  obtain ⟨c, r, hs0, hc⟩ := head_at h0'
  rw [hc]
  have hsym : symbolS s = (smallB c && s.all letterB) := by
    unfold symbolS
    have e1 : decide (1 ≤ s.length) = true := by simp; omega
    have e2 : decide (s.length ≤ 24) = true := by simp; omega
    rw [e1, e2, hs0]; simp
  rw [hsym]
  cases hsm : smallB c with
  | false =>
    conv => whnf
    exact fin0 rfl trivial
  | true =>
  conv => whnf
  refine loop_of hP [0, 2, 3, 17, 19, 20, 21, 47] [] [0, 2, 19, 20] [] [] (fun n st => ∃ k : Nat, n = s.length - k ∧ k ≤ s.length ∧ s.all letterB = (s.drop k).all letterB ∧ st = ⟨[(0, .str s), (2, .bool false), (19, .int .i64 s.length), (20, .int .i64 k)], []⟩) s.length ?_ ?_
  · conv => whnf
    exact ⟨0, rfl, Nat.zero_le _, rfl, rfl⟩
  · rintro n st ⟨k, rfl, hk, he, rfl⟩
    conv => whnf
    refine branch_of (fun h => ?_) (fun h => ?_)
    · conv => whnf
      have hk' : k < s.length := by simpa using h
      rw [all_drop hk'] at he
      refine ⟨s[k], ⟨by omega, by simp [hk']⟩, ?_⟩
      conv => whnf
      refine call0 (vsmall_good _) ?_
      conv => whnf
      have next : letterB s[k] = true → ∃ m, m < s.length - k ∧ ∃ k' : Nat, m = s.length - k' ∧ k' ≤ s.length ∧ s.all letterB = (s.drop k').all letterB ∧ (⟨[(0, .str s), (2, .bool false), (19, .int .i64 s.length), (20, .int .i64 (IntKind.i64.wrap (k + 1)))], []⟩ : St) = ⟨[(0, .str s), (2, .bool false), (19, .int .i64 s.length), (20, .int .i64 k')], []⟩ := fun hl => by
        rw [hl, Bool.true_and] at he
        exact ⟨s.length - (k + 1), by omega, k + 1, rfl, by omega, he, by rw [wr (by omega) (by omega)]; rfl⟩
      cases a1 : smallB s[k] with
      | true => conv => whnf
                exact next (by simp [letterB, a1])
      | false =>
      conv => whnf
      refine ⟨s[k], ⟨by omega, by simp [hk']⟩, ?_⟩
      conv => whnf
      refine call0 (vlarge_good _) ?_
      conv => whnf
      cases a2 : largeB s[k] with
      | true => conv => whnf
                exact next (by simp [letterB, a2])
      | false =>
      conv => whnf
      refine ⟨s[k], ⟨by omega, by simp [hk']⟩, ?_⟩
      conv => whnf
      refine call0 (vdigit_good _) ?_
      conv => whnf
      cases a3 : digitB s[k] with
      | true => conv => whnf
                exact next (by simp [letterB, a3])
      | false =>
      conv => whnf
      refine ⟨s[k], ⟨by omega, by simp [hk']⟩, ?_⟩
      conv => whnf
      refine branch_of (fun h2 => ?_) (fun h2 => ?_)
      · conv => whnf
        refine fin0 ?_ trivial
        have : letterB s[k] = false := by simp [letterB, a1, a2, a3]; simp at h2; omega
        rw [he, this]; simp
      · conv => whnf
        exact next (by simp [letterB]; simp at h2; omega)
    · conv => whnf
      refine fin0 ?_ trivial
      have : s.drop k = [] := by simp at h; exact List.drop_eq_nil_iff.2 (by omega)
      rw [he, this]; simp
theorem check_good (v : Val) (hs : v.s.length ≤ 4611686018427387904) : Good Tryz.prog 139 [.agg v.c] [] [.int .i64 (if checkS v then 0 else 1)] [] := by
  refine good_of hP Tryz.func139 (by kernel_rfl) (lv := [0, 1, 2, 3, 5, 6, 21, 31, 42]) (js := []) ⟨rfl, rfl, rfl, rfl, rfl, rfl, _, rfl, ?_⟩
  obtain ⟨k, n, s⟩ := v
  dsimp only at hs
  conv => whnf
  refine branch_of (fun h => ?_) (fun h => ?_)
  · have hk : k = 1 := by simpa using h
    subst hk
    conv => whnf
    refine branch_of (fun h1 => ?_) (fun h1 => ?_)
    · conv => whnf
      refine branch_of (fun h2 => ?_) (fun h2 => ?_)
      · conv => whnf
        refine branch_of (fun h3 => ?_) (fun h3 => ?_)
        all_goals conv => whnf
        all_goals refine fin0 ?_ trivial
        all_goals simp [checkS, inR]
        all_goals simp at h1 h2 h3
        all_goals simp [h1, h2, h3]
      · conv => whnf
        refine fin0 ?_ trivial
        simp [checkS, inR]
        simp at h1 h2
        omega
    · conv => whnf
      refine fin0 ?_ trivial
      simp [checkS, inR]
      simp at h1
      omega
  · have hk : k ≠ 1 := by simpa using h
    conv => whnf
    refine branch_of (fun h => ?_) (fun h => ?_)
    · have hk : k = 2 := by simpa using h
      subst hk
      conv => whnf
      refine branch_of (fun h1 => ?_) (fun h1 => ?_)
      · conv => whnf
        refine call0 (symbol_good s hs) ?_
        conv => whnf
        simp at h1
        cases h2 : symbolS s
        all_goals conv => whnf
        all_goals refine fin0 ?_ trivial
        all_goals simp [checkS, h1, h2]
      · conv => whnf
        refine fin0 ?_ trivial
        simp at h1
        simp [checkS, h1]
    · have hk2 : k ≠ 2 := by simpa using h
      conv => whnf
      refine branch_of (fun h => ?_) (fun h => ?_)
      · have hk : k = 3 := by simpa using h
        subst hk
        conv => whnf
        refine branch_of (fun h1 => ?_) (fun h1 => ?_)
        · conv => whnf
          refine call0 (plain_good s hs) ?_
          conv => whnf
          simp at h1
          cases h2 : plainS s
          all_goals conv => whnf
          all_goals refine fin0 ?_ trivial
          all_goals simp [checkS, h1, h2]
        · conv => whnf
          refine fin0 ?_ trivial
          simp at h1
          simp [checkS, h1]
      · have hk3 : k ≠ 3 := by simpa using h
        conv => whnf
        refine fin0 ?_ trivial
        simp [checkS, hk, hk2, hk3]
theorem quoted_good (s : Bs) (hs : s.length ≤ 1000000) : Good Tryz.prog 192 [.str s] [] [.str (quotedS s)] [] := by
  refine good_of hP Tryz.func192 (by kernel_rfl) (lv := [0, 2, 3, 4, 7, 8, 9, 20]) (js := []) ⟨rfl, rfl, rfl, rfl, rfl, rfl, _, rfl, ?_⟩
  conv => whnf
  refine loop_of hP [0, 2, 3, 4, 7, 8, 9, 20] [] [0, 2, 3, 7, 8] [69] [] (fun n st => ∃ k : Nat, n = s.length - k ∧ k ≤ s.length ∧ st = ⟨[(0, .str s), (2, .str []), (3, .own 69 0), (7, .int .i64 s.length), (8, .int .i64 k)], [(69, .arr 0 false 1 (bytesX (34 :: (s.take k).flatMap quoteB)))]⟩) s.length ?_ ?_
  · conv => whnf
    exact ⟨0, rfl, Nat.zero_le _, rfl⟩
  · rintro n st ⟨k, rfl, hk, rfl⟩
    have hl := flatMap_len (s.take k)
    have hl2 : (bytesX (34 :: (s.take k).flatMap quoteB)).length ≤ 2 * k + 1 := by rw [bytesX_len, List.length_cons]; rw [List.length_take] at hl; omega
    conv => whnf
    refine branch_of (fun h => ?_) (fun h => ?_)
    · conv => whnf
      have hk' : k < s.length := by simpa using h
      refine ⟨s[k], ⟨by omega, by simp [hk']⟩, ?_⟩
      have last : escB s[k] = true → bytesX (34 :: (s.take k).flatMap quoteB) ++ [[V.int .u8 92]] ++ [[V.int .u8 s[k].toNat]] = bytesX (34 :: (s.take (k + 1)).flatMap quoteB) := fun h => by
        rw [flatMap_snoc s hk', show ([[V.int .u8 92]] : List (List V)) = bytesX [92] from rfl, bytesX_app, bytesX_snoc]; simp [quoteB, h]
      have last2 : escB s[k] = false → bytesX (34 :: (s.take k).flatMap quoteB) ++ [[V.int .u8 s[k].toNat]] = bytesX (34 :: (s.take (k + 1)).flatMap quoteB) := fun h => by
        rw [flatMap_snoc s hk', bytesX_snoc]; simp [quoteB, h]
      conv => whnf
      refine branch_of (fun h1 => ?_) (fun h1 => ?_)
      · conv => whnf
        refine ⟨⟨⟩, by dsimp only; simp only [List.length_cons, List.length_nil]; omega, ?_⟩
        conv => whnf
        refine ⟨s[k], ⟨by omega, by simp [hk']⟩, ?_⟩
        conv => whnf
        refine ⟨⟨⟩, by dsimp only; simp only [List.length_append, List.length_cons, List.length_nil]; omega, ?_⟩
        conv => whnf
        refine ⟨s.length - (k + 1), by omega, k + 1, rfl, by omega, ?_⟩
        rw [wr (by omega) (by omega), ← last (by simp [escB]; simp at h1; omega)]; rfl
      · conv => whnf
        refine ⟨s[k], ⟨by omega, by simp [hk']⟩, ?_⟩
        conv => whnf
        refine branch_of (fun h2 => ?_) (fun h2 => ?_)
        · conv => whnf
          refine ⟨⟨⟩, by dsimp only; simp only [List.length_cons, List.length_nil]; omega, ?_⟩
          conv => whnf
          refine ⟨s[k], ⟨by omega, by simp [hk']⟩, ?_⟩
          conv => whnf
          refine ⟨⟨⟩, by dsimp only; simp only [List.length_append, List.length_cons, List.length_nil]; omega, ?_⟩
          conv => whnf
          refine ⟨s.length - (k + 1), by omega, k + 1, rfl, by omega, ?_⟩
          rw [wr (by omega) (by omega), ← last (by simp [escB]; simp at h2; omega)]; rfl
        · conv => whnf
          refine ⟨s[k], ⟨by omega, by simp [hk']⟩, ?_⟩
          conv => whnf
          refine ⟨⟨⟩, by dsimp only; simp only [List.length_append, List.length_cons, List.length_nil]; omega, ?_⟩
          conv => whnf
          refine ⟨s.length - (k + 1), by omega, k + 1, rfl, by omega, ?_⟩
          rw [wr (by omega) (by omega), ← last2 (by simp [escB]; simp at h1 h2; omega)]; rfl
    · conv => whnf
      refine ⟨⟨⟩, by dsimp only; simp only [List.length_cons, List.length_nil]; omega, ?_⟩
      conv => whnf
      have e : bytesX (34 :: (s.take k).flatMap quoteB) ++ [[V.int .u8 34]] = bytesX (quotedS s) := by
        have : k = s.length := by simp at h; omega
        rw [show ([[V.int .u8 34]] : List (List V)) = bytesX [34] from rfl, bytesX_app, this, List.take_length]; rfl
      rw [e]
      refine ⟨⟨⟩, bytesX_mem _, ?_⟩
      rw [bytesX_back]
      conv => whnf
      exact fin0 rfl trivial
theorem mid_drop (s : Bs) {k : Nat} (h : k + 1 < s.length) : (s.drop k).take (s.length - 1 - k) = s[k] :: (s.drop (k + 1)).take (s.length - 1 - (k + 1)) := by
  rw [drop_cons (by omega), show s.length - 1 - k = (s.length - 1 - (k + 1)) + 1 by omega, List.take_succ_cons]
theorem bareM_end (c : UInt8) {r : Bs} (h : r = []) : bareM (c :: r) = [c] := by subst h; rfl
theorem bareM_no {c : UInt8} (h : c.toNat ≠ 92) (r : Bs) : bareM (c :: r) = c :: bareM r := by
  cases r with
  | nil => rfl
  | cons d r => simp [bareM, h]
theorem bareM_esc {c : UInt8} (h : c.toNat = 92) (d : UInt8) (r : Bs) : bareM (c :: d :: r) = d :: bareM r := by simp [bareM, h]
theorem bare_good (s : Bs) (hs : s.length ≤ 1000000) : Good Tryz.prog 215 [.str s] [] [.str (bareS s)] [] := by
  refine good_of hP Tryz.func215 (by kernel_rfl) (lv := [0, 2, 3, 4, 9, 23]) (js := []) ⟨rfl, rfl, rfl, rfl, rfl, rfl, _, rfl, ?_⟩
  conv => whnf
  refine loop_of hP [0, 2, 3, 4, 9, 23] [] [0, 2, 3, 4] [67] [.slot 3 1] (fun n st => ∃ (k : Nat) (out : Bs), n = s.length + 1 - k ∧ 1 ≤ k ∧ (k ≤ s.length ∨ k = 1) ∧ out.length + 1 ≤ k ∧ bareS s = out ++ bareM ((s.drop k).take (s.length - 1 - k)) ∧ st = ⟨[(0, .str s), (2, .str []), (3, .own 67 0), (4, .int .i64 k)], [(67, .arr 0 false 1 (bytesX out))]⟩) s.length ?_ ?_
  · conv => whnf
    exact ⟨1, [], by omega, by omega, .inr rfl, Nat.le_refl _, by unfold bareS; rw [Nat.sub_sub]; rfl, rfl⟩
  · rintro n st ⟨k, out, rfl, hk0, hk, hout, he, rfl⟩
    have hxl := bytesX_len out
    conv => whnf
    refine branch_of (fun h => ?_) (fun h => ?_)
    · conv => whnf
      simp at h
      rw [wr (by omega) (by omega)] at h
      have hk' : k < s.length := by omega
      rw [mid_drop s (by omega)] at he
      refine ⟨s[k], ⟨by omega, by simp [hk']⟩, ?_⟩
      conv => whnf
      refine branch_of (fun h1 => ?_) (fun h1 => ?_)
      · conv => whnf
        simp at h1
        refine branch_of (fun h2 => ?_) (fun h2 => ?_)
        · conv => whnf
          simp at h2
          rw [wr (by omega) (by omega), wr (by omega) (by omega)] at h2
          have hk2 : k + 1 < s.length := by omega
          rw [wr (by omega) (by omega)]
          refine ⟨s[k + 1], ⟨by omega, by simp [hk2]⟩, ?_⟩
          conv => whnf
          refine ⟨⟨⟩, by dsimp only; simp only [List.length_cons, List.length_nil]; omega, ?_⟩
          conv => whnf
          rw [mid_drop s (by omega), bareM_esc (by omega)] at he
          refine ⟨s.length + 1 - (k + 2), by omega, k + 2, out ++ [s[k + 1]], rfl, by omega, by omega, by simp; omega, by rw [he]; simp, ?_⟩
          rw [wr (by omega) (by omega), ← bytesX_snoc]; rfl
        · conv => whnf
          simp at h2
          rw [wr (by omega) (by omega), wr (by omega) (by omega)] at h2
          refine ⟨s[k], ⟨by omega, by simp [hk']⟩, ?_⟩
          conv => whnf
          refine ⟨⟨⟩, by dsimp only; simp only [List.length_cons, List.length_nil]; omega, ?_⟩
          conv => whnf
          have hz : s.length - 1 - (k + 1) = 0 := by omega
          rw [bareM_end _ (by rw [hz]; simp)] at he
          refine ⟨s.length + 1 - (k + 1), by omega, k + 1, out ++ [s[k]], rfl, by omega, by omega, by simp; omega, by rw [he, hz]; simp [bareM], ?_⟩
          rw [wr (by omega) (by omega), ← bytesX_snoc]; rfl
      · conv => whnf
        simp at h1
        refine ⟨s[k], ⟨by omega, by simp [hk']⟩, ?_⟩
        conv => whnf
        refine ⟨⟨⟩, by dsimp only; simp only [List.length_cons, List.length_nil]; omega, ?_⟩
        conv => whnf
        rw [bareM_no (by omega)] at he
        refine ⟨s.length + 1 - (k + 1), by omega, k + 1, out ++ [s[k]], rfl, by omega, by omega, by simp; omega, by rw [he]; simp, ?_⟩
        rw [wr (by omega) (by omega), ← bytesX_snoc]; rfl
    · conv => whnf
      refine ⟨⟨⟩, bytesX_mem _, ?_⟩
      rw [bytesX_back]
      conv => whnf
      refine fin0 ?_ trivial
      simp at h
      rw [wr (by omega) (by omega)] at h
      have : s.length - 1 - k = 0 := by omega
      rw [he, this]; simp [bareM]
theorem text_good (v : Val) (hs : v.s.length ≤ 1000000) : Good Tryz.prog 127 [.agg v.c] [] [.str (textV v), .int .i64 (if checkS v then 0 else 1)] [] := by
  refine good_of hP Tryz.func127 (by kernel_rfl) (lv := [0, 1, 2, 3, 4, 7, 11, 18]) (js := []) ⟨rfl, rfl, rfl, rfl, rfl, rfl, _, rfl, ?_⟩
  conv => whnf
  refine call0 (check_good v (by omega)) ?_
  obtain ⟨k, n, s⟩ := v
  dsimp only at hs
  cases hc : checkS ⟨k, n, s⟩ with
  | false =>
    conv => whnf
    exact fin0 (by simp [textV, hc]) trivial
  | true =>
    conv => whnf
    refine branch_of (fun h => ?_) (fun h => ?_)
    · have hk : k = 1 := by simpa using h
      subst hk
      have hn : inR n = true := by simp [checkS] at hc; exact hc.1
      simp [inR] at hn
      conv => whnf
      refine call0 (itoa_good n (by omega) (by omega)) ?_
      conv => whnf
      exact fin0 (by simp [textV, hc]) trivial
    · have hk : k ≠ 1 := by simpa using h
      conv => whnf
      refine branch_of (fun h => ?_) (fun h => ?_)
      · have hk2 : k = 2 := by simpa using h
        subst hk2
        conv => whnf
        exact fin0 (by simp [textV, hc]) trivial
      · have hk2 : k ≠ 2 := by simpa using h
        conv => whnf
        refine call0 (quoted_good s hs) ?_
        conv => whnf
        exact fin0 (by simp [textV, hc, hk, hk2]) trivial
theorem bareM_len (s : Bs) : (bareM s).length ≤ s.length := by
  induction s using bareM.induct with
  | case1 => simp [bareM]
  | case2 => simp [bareM]
  | case3 c d r h ih => rw [bareM_esc h]; simp; omega
  | case4 c d r h ih => rw [bareM_no h]; simp at ih ⊢; omega
theorem bareS_len (s : Bs) : (bareS s).length ≤ s.length := by
  have := bareM_len ((s.drop 1).take (s.length - 2))
  unfold bareS
  simp at this ⊢; omega
theorem parse_good (s : Bs) (hs : s.length ≤ 1000000) : Good Tryz.prog 168 [.str s] [] [.agg ((parseS s).getD zeroV).c, .int .i64 (if (parseS s).isSome then 0 else 7)] [] := by
  refine good_of hP Tryz.func168 (by kernel_rfl) (lv := [0, 2, 3, 4, 5, 6, 7, 8, 11, 15, 22, 37, 52]) (js := [200006, 100000]) ⟨rfl, rfl, rfl, rfl, rfl, rfl, _, rfl, ?_⟩
  conv => whnf
  refine seq_of hP [0, 2, 3, 4, 5, 6, 7, 8, 11, 15, 22, 37, 52] [200006, 100000] [0, 2, 3, 4] [66, 68] [] (fun st => ∃ v : Val, guessS s = some v ∧ v.s.length ≤ s.length ∧ st = ⟨[(0, .str s), (2, .ptr 66 0 0), (3, .int .i64 0), (4, .ptr 68 0 0)], [(66, .box 0 zeroV.c), (68, .box 0 v.c)]⟩) ?_ ?_
  · conv => whnf
    refine branch_of (fun h => ?_) (fun h => ?_)
    · have hs0 : s = [] := by simpa using h
      conv => whnf
      refine fin0 ?_ trivial
      subst hs0; rfl
    · have hs0 : s ≠ [] := by simpa using h
      have hl : 0 < s.length := List.length_pos_iff.2 hs0
      obtain ⟨c, r, hcr, hc⟩ := head_at hl
      conv => whnf
      refine ⟨c, ⟨by omega, by rw [hcr]; rfl⟩, ?_⟩
      have hg : guessS s = if c.toNat = 34 then some ⟨3, 0, bareS s⟩ else if c.toNat = 45 ∨ digitB c then (if atoiOk s then some ⟨1, atoiN s, []⟩ else none) else some ⟨2, 0, s⟩ := by
        rw [hcr]; rfl
      conv => whnf
      refine branch_of (fun h => ?_) (fun h => ?_)
      · conv => whnf
        simp at h
        refine call0 (bare_good s hs) ?_
        conv => whnf
        refine ⟨⟨3, 0, bareS s⟩, by rw [hg, if_pos (by omega)], bareS_len s, rfl⟩
      · simp at h
        rw [if_neg (by omega)] at hg
        conv => whnf
        refine seq_of hP [0, 2, 3, 4, 5, 6, 7, 8, 11, 15, 22, 37, 52] [200006, 100000] [0, 2, 3, 4, 22] [66, 68] [] (fun st => st = ⟨[(0, .str s), (2, .ptr 66 0 0), (3, .int .i64 0), (4, .ptr 68 0 0), (22, .bool (decide (c.toNat = 45 ∨ digitB c)))], [(66, .box 0 zeroV.c), (68, .box 0 (Val.c ⟨2, 0, s⟩))]⟩) ?_ ?_
        · conv => whnf
          refine ⟨c, ⟨by omega, by rw [hcr]; rfl⟩, ?_⟩
          conv => whnf
          refine branch_of (fun h2 => ?_) (fun h2 => ?_)
          · conv => whnf
            have h2 : c.toNat = 45 := by simp at h2; omega
            simp only [h2, true_or, decide_true]; rfl
          · conv => whnf
            refine ⟨c, ⟨by omega, by rw [hcr]; rfl⟩, ?_⟩
            conv => whnf
            refine call0 (vdigit_good _) ?_
            conv => whnf
            have h2 : c.toNat ≠ 45 := by simp at h2; omega
            simp only [h2, false_or, Bool.decide_eq_true]; rfl
        · rintro st rfl
          conv => whnf
          refine branch_of (fun h2 => ?_) (fun h2 => ?_)
          · rw [if_pos (of_decide_eq_true h2)] at hg
            conv => whnf
            refine call0 (atoi_good s (by omega)) ?_
            cases ha : atoiOk s with
            | true =>
              rw [ha, if_pos rfl] at hg
              conv => whnf
              exact ⟨_, hg, Nat.zero_le _, rfl⟩
            | false =>
              rw [ha, if_neg (by simp)] at hg
              conv => whnf
              refine fin0 ?_ trivial
              simp [parseS, hg, zeroV]
          · rw [if_neg (of_decide_eq_false h2)] at hg
            conv => whnf
            exact ⟨_, hg, Nat.le_refl _, rfl⟩
  · rintro st ⟨⟨k, n, t⟩, hv, hl, rfl⟩
    dsimp only at hl
    conv => whnf
    refine call0 (text_good ⟨k, n, t⟩ (by dsimp only; omega)) ?_
    cases hc : checkS ⟨k, n, t⟩ with
    | false =>
      conv => whnf
      refine fin0 ?_ trivial
      simp [parseS, hv, hc, zeroV]
    | true =>
      conv => whnf
      refine branch_of (fun h => ?_) (fun h => ?_)
      · have h : textV ⟨k, n, t⟩ ≠ s := by simpa using h
        conv => whnf
        refine fin0 ?_ trivial
        simp [parseS, hv, hc, h, zeroV]
      · have h : textV ⟨k, n, t⟩ = s := by simpa using h
        conv => whnf
        refine fin0 ?_ trivial
        simp [parseS, hv, hc, h, zeroV]
end Go.PV
namespace Go.PV
open Go Go.Proofs
set_option maxRecDepth 100000
theorem small_good (c : UInt8) : Good Tryz.prog 161 [.int .u8 c.toNat] [] [.bool (smallB c)] [] := by
  refine good_of hP Tryz.func161 (by kernel_rfl) (lv := [0, 2]) (js := []) ⟨rfl, rfl, rfl, rfl, rfl, rfl, _, rfl, ?_⟩
  repeat' (conv => whnf); refine branch_of (fun _ => ?_) (fun _ => ?_)
  all_goals (conv => whnf); exact fin0 (by simp_all [smallB, inB] <;> first | omega | (rw [Bool.eq_iff_iff]; simp; omega)) trivial
theorem large_good (c : UInt8) : Good Tryz.prog 162 [.int .u8 c.toNat] [] [.bool (largeB c)] [] := by
  refine good_of hP Tryz.func162 (by kernel_rfl) (lv := [0, 2]) (js := []) ⟨rfl, rfl, rfl, rfl, rfl, rfl, _, rfl, ?_⟩
  repeat' (conv => whnf); refine branch_of (fun _ => ?_) (fun _ => ?_)
  all_goals (conv => whnf); exact fin0 (by simp_all [largeB, inB] <;> first | omega | (rw [Bool.eq_iff_iff]; simp; omega)) trivial
theorem digit_good (c : UInt8) : Good Tryz.prog 165 [.int .u8 c.toNat] [] [.bool (digitB c)] [] := by
  refine good_of hP Tryz.func165 (by kernel_rfl) (lv := [0, 2]) (js := []) ⟨rfl, rfl, rfl, rfl, rfl, rfl, _, rfl, ?_⟩
  repeat' (conv => whnf); refine branch_of (fun _ => ?_) (fun _ => ?_)
  all_goals (conv => whnf); exact fin0 (by simp_all [digitB, inB] <;> first | omega | (rw [Bool.eq_iff_iff]; simp; omega)) trivial
theorem blank_good (c : UInt8) : Good Tryz.prog 160 [.int .u8 c.toNat] [] [.bool (blankB c)] [] := by
  refine good_of hP Tryz.func160 (by kernel_rfl) (lv := [0, 2]) (js := []) ⟨rfl, rfl, rfl, rfl, rfl, rfl, _, rfl, ?_⟩
  conv => whnf
  refine branch_of (fun h1 => ?_) (fun h1 => ?_)
  · conv => whnf
    exact fin0 (by simp [blankB]; simp at h1; omega) trivial
  conv => whnf
  refine branch_of (fun h2 => ?_) (fun h2 => ?_)
  · conv => whnf
    exact fin0 (by simp [blankB]; simp at h2; omega) trivial
  conv => whnf
  refine branch_of (fun h3 => ?_) (fun h3 => ?_)
  · conv => whnf
    exact fin0 (by simp [blankB]; simp at h3; omega) trivial
  conv => whnf
  refine fin0 ?_ trivial
  simp at h1 h2 h3
  congr 2
  unfold blankB
  rw [decide_eq_decide]; omega
theorem letter_good (c : UInt8) : Good Tryz.prog 164 [.int .u8 c.toNat] [] [.bool (letterB c)] [] := by
  refine good_of hP Tryz.func164 (by kernel_rfl) (lv := [0, 2]) (js := []) ⟨rfl, rfl, rfl, rfl, rfl, rfl, _, rfl, ?_⟩
  conv => whnf
  refine call0 (small_good _) ?_
  cases h1 : smallB c with
  | true => conv => whnf
            exact fin0 (by simp [letterB, h1]) trivial
  | false =>
  conv => whnf
  refine call0 (large_good _) ?_
  cases h2 : largeB c with
  | true => conv => whnf
            exact fin0 (by simp [letterB, h2]) trivial
  | false =>
  conv => whnf
  refine call0 (digit_good _) ?_
  cases h3 : digitB c with
  | true => conv => whnf
            exact fin0 (by simp [letterB, h3]) trivial
  | false =>
  conv => whnf
  refine fin0 ?_ trivial
  congr 2
  simp [letterB, h1, h2, h3]; omega
theorem run_good (s : Bs) (hs : s.length ≤ 1000000) (g : FuncId) (p : UInt8 → Bool) (hg : ∀ c : UInt8, Good Tryz.prog g [.int .u8 c.toNat] [] [.bool (p c)] []) : Good Tryz.prog 163 [.str s, .fn g []] [] [.int .i64 (s.takeWhile p).length] [] := by
  refine good_of hP Tryz.func163 (by kernel_rfl) (lv := [0, 1, 4, 5, 7, 8, 9, 16]) (js := []) ⟨rfl, rfl, rfl, rfl, rfl, rfl, _, rfl, ?_⟩
  conv => whnf
  refine loop_of hP [0, 1, 4, 5, 7, 8, 9, 16] [] [0, 1, 4, 7, 8] [] [] (fun n st => ∃ k : Nat, n = s.length - k ∧ k ≤ s.length ∧ (s.takeWhile p).length = k + ((s.drop k).takeWhile p).length ∧ st = ⟨[(0, .str s), (1, .fn g []), (4, .int .i64 0), (7, .int .i64 s.length), (8, .int .i64 k)], []⟩) s.length ?_ ?_
  · conv => whnf
    exact ⟨0, rfl, Nat.zero_le _, by simp, rfl⟩
  · rintro n st ⟨k, rfl, hk, he, rfl⟩
    conv => whnf
    refine branch_of (fun h => ?_) (fun h => ?_)
    · conv => whnf
      have hk' : k < s.length := by simpa using h
      rw [takeWhile_drop hk'] at he
      refine ⟨s[k], ⟨by omega, by simp [hk']⟩, ?_⟩
      conv => whnf
      refine call0 (hg _) ?_
      cases hp : p s[k] with
      | false =>
        conv => whnf
        refine fin0 ?_ trivial
        rw [hp] at he
        rw [he]; simp
      | true =>
        conv => whnf
        rw [hp, if_pos rfl, List.length_cons] at he
        refine ⟨s.length - (k + 1), by omega, k + 1, rfl, by omega, by omega, ?_⟩
        rw [wr (by omega) (by omega)]; rfl
    · conv => whnf
      refine fin0 ?_ trivial
      have : s.drop k = [] := by simp at h; exact List.drop_eq_nil_iff.2 (by omega)
      simp at h
      rw [he, this]; simp; omega
theorem hasPrefix0_good (s p : Bs) : Good Tryz.prog 243 [.str s, .str p] [] [.bool (hasP s p)] [] := by
  refine good_of hP Tryz.func243 (by kernel_rfl) (lv := [0, 1, 4]) (js := []) ⟨rfl, rfl, rfl, rfl, rfl, rfl, _, rfl, ?_⟩
  conv => whnf
  refine branch_of (fun h => ?_) (fun h => ?_)
  · simp at h
    conv => whnf
    refine ⟨⟨⟩, by dsimp only; omega, ?_⟩
    conv => whnf
    exact fin0 (by simp [hasP, h]) trivial
  · simp at h
    conv => whnf
    exact fin0 (by simp [hasP]; omega) trivial
theorem hasPrefix_good (s p : Bs) : Good Tryz.prog 218 [.str s, .str p] [] [.bool (hasP s p)] [] := by
  refine good_of hP Tryz.func218 (by kernel_rfl) (lv := [0, 1, 4]) (js := []) ⟨rfl, rfl, rfl, rfl, rfl, rfl, _, rfl, ?_⟩
  conv => whnf
  refine call0 (hasPrefix0_good s p) ?_
  conv => whnf
  exact fin0 rfl trivial
theorem cutPrefix0_good (s p : Bs) : Good Tryz.prog 236 [.str s, .str p] [] [.str (if hasP s p then s.drop p.length else s), .bool (hasP s p)] [] := by
  refine good_of hP Tryz.func236 (by kernel_rfl) (lv := [0, 1, 4, 5, 9]) (js := []) ⟨rfl, rfl, rfl, rfl, rfl, rfl, _, rfl, ?_⟩
  conv => whnf
  refine call0 (hasPrefix0_good s p) ?_
  cases h : hasP s p with
  | false =>
    conv => whnf
    exact fin0 rfl trivial
  | true =>
    have hl := hasP_len h
    conv => whnf
    refine ⟨⟨⟩, by dsimp only; omega, ?_⟩
    conv => whnf
    exact fin0 rfl trivial
theorem cutPrefix_good (s p : Bs) : Good Tryz.prog 213 [.str s, .str p] [] [.str (if hasP s p then s.drop p.length else s), .bool (hasP s p)] [] := by
  refine good_of hP Tryz.func213 (by kernel_rfl) (lv := [0, 1, 4, 5]) (js := []) ⟨rfl, rfl, rfl, rfl, rfl, rfl, _, rfl, ?_⟩
  conv => whnf
  refine call0 (cutPrefix0_good s p) ?_
  conv => whnf
  exact fin0 rfl trivial
theorem trimByte_good (s : Bs) : Good Tryz.prog 237 [.str s, .int .u8 48] [] [.str (trim0 s)] [] := by
  refine good_of hP Tryz.func237 (by kernel_rfl) (lv := [0, 1, 4, 13]) (js := []) ⟨rfl, rfl, rfl, rfl, rfl, rfl, _, rfl, ?_⟩
  conv => whnf
  refine loop_of hP [0, 1, 4, 13] [] [0, 1, 4] [] [] (fun n st => ∃ t : Bs, n = t.length ∧ trim0 s = trim0 t ∧ st = ⟨[(0, .str t), (1, .int .u8 48), (4, .str [])], []⟩) s.length ?_ ?_
  · conv => whnf
    exact ⟨s, rfl, rfl, rfl⟩
  · rintro n st ⟨t, rfl, he, rfl⟩
    conv => whnf
    refine branch_of (fun h => ?_) (fun h => ?_)
    · have h := of_decide_eq_true h
      obtain ⟨c, r, rfl, _⟩ := head_at (s := t) (by omega)
      conv => whnf
      refine ⟨c, ⟨by omega, rfl⟩, ?_⟩
      conv => whnf
      refine branch_of (fun h1 => ?_) (fun h1 => ?_)
      · simp at h1
        conv => whnf
        refine ⟨⟨⟩, by dsimp only; simp only [List.length_cons]; omega, ?_⟩
        conv => whnf
        refine ⟨r.length, by simp, r, rfl, ?_, rfl⟩
        rw [he]; unfold trim0; rw [List.dropWhile_cons, if_pos (by simp; omega)]
      · simp at h1
        conv => whnf
        refine fin0 ?_ trivial
        rw [he]; unfold trim0; rw [List.dropWhile_cons, if_neg (by simp; omega)]
    · have h := of_decide_eq_false h
      conv => whnf
      refine fin0 ?_ trivial
      have : t = [] := List.eq_nil_of_length_eq_zero (by omega)
      rw [he, this]; rfl
theorem trim_good (s : Bs) : Good Tryz.prog 214 [.str s, .str [48]] [] [.str (trim0 s)] [] := by
  refine good_of hP Tryz.func214 (by kernel_rfl) (lv := [0, 1, 4, 5, 6, 12, 21, 31]) (js := []) ⟨rfl, rfl, rfl, rfl, rfl, rfl, _, rfl, ?_⟩
  conv => whnf
  refine branch_of (fun h => ?_) (fun h => ?_)
  · conv => whnf
    refine fin0 ?_ trivial
    have : s = [] := by simpa using h
    subst this; rfl
  · conv => whnf
    refine ⟨48, ⟨by omega, rfl⟩, ?_⟩
    conv => whnf
    refine ⟨48, ⟨by omega, rfl⟩, ?_⟩
    conv => whnf
    refine call0 (trimByte_good s) ?_
    conv => whnf
    exact fin0 rfl trivial
theorem takeWhile_all {p : UInt8 → Bool} {s : Bs} : (s.takeWhile p).length < s.length ↔ s.all p = false := by
  induction s with
  | nil => simp
  | cons c s ih =>
    rw [List.takeWhile_cons, List.all_cons]
    cases h : p c with
    | false => simp
    | true => simp only [if_pos, List.length_cons, Bool.true_and, Nat.add_lt_add_iff_right]; exact ih
theorem trim0_len (s : Bs) : (trim0 s).length ≤ s.length := by
  unfold trim0
  exact (List.dropWhile_suffix _).length_le
theorem number_good (s : Bs) (hs : s.length ≤ 100000) : Good Tryz.prog 166 [.str s] [] [.agg ((numberS s).getD zeroV).c, .bool (numberS s).isSome] [] := by
  refine good_of hP Tryz.func166 (by kernel_rfl) (lv := [0, 2, 3, 4, 5, 6, 7, 21, 26, 28]) (js := []) ⟨rfl, rfl, rfl, rfl, rfl, rfl, _, rfl, ?_⟩
  conv => whnf
  refine call0 (cutPrefix_good s [45]) ?_
  have hr : (if hasP s [45] then s.drop ([45] : Bs).length else s) = numRest s := rfl
  rw [hr]
  have hl : (numRest s).length ≤ s.length := by unfold numRest; split <;> simp
  have ht := trim0_len (numRest s)
  conv => whnf
  refine branch_of (fun h => ?_) (fun h => ?_)
  · have h : numRest s = [] := by simpa using h
    conv => whnf
    exact fin0 (by simp [numberS, h, zeroV]) trivial
  · have h : numRest s ≠ [] := by simpa using h
    conv => whnf
    refine call0 (run_good (numRest s) (by omega) _ digitB digit_good) ?_
    conv => whnf
    refine branch_of (fun h1 => ?_) (fun h1 => ?_)
    · have h1 : (numRest s).all digitB = false := takeWhile_all.1 (by simpa using h1)
      conv => whnf
      exact fin0 (by simp [numberS, h1, zeroV]) trivial
    · have h1 : (numRest s).all digitB = true := by
        cases e : (numRest s).all digitB with
        | true => rfl
        | false => exact absurd (takeWhile_all.2 e) (by simpa using h1)
      conv => whnf
      refine call0 (trim_good _) ?_
      conv => whnf
      refine branch_of (fun h2 => ?_) (fun h2 => ?_)
      · have h2 : trim0 (numRest s) = [] := by simpa using h2
        conv => whnf
        exact fin0 (by simp [numberS, h, h1, h2]) trivial
      · have h2 : trim0 (numRest s) ≠ [] := by simpa using h2
        have e : numberS s = parseS (if hasP s [45] then 45 :: trim0 (numRest s) else trim0 (numRest s)) := by simp [numberS, h, h1, h2]
        rw [e]
        cases hb : hasP s [45] with
        | true =>
          rw [if_pos rfl]
          conv => whnf
          refine ⟨⟨⟩, by dsimp only; simp only [List.length_cons, List.length_nil]; omega, ?_⟩
          conv => whnf
          refine call0 (parse_good (45 :: trim0 (numRest s)) (by simp only [List.length_cons]; omega)) ?_
          conv => whnf
          cases hp : parseS (45 :: trim0 (numRest s)) <;> exact fin0 rfl trivial
        | false =>
          rw [if_neg (by simp)]
          conv => whnf
          refine call0 (parse_good (trim0 (numRest s)) (by omega)) ?_
          conv => whnf
          cases hp : parseS (trim0 (numRest s)) <;> exact fin0 rfl trivial
theorem textGo_quote {c : UInt8} (h : c.toNat = 34) (i : Nat) (r : Bs) : textGo i (c :: r) = i + 1 := by
  cases r <;> simp [textGo, h]
theorem textGo_esc {c d : UInt8} (h : c.toNat = 92) (h2 : escB d = true) (i : Nat) (r : Bs) : textGo i (c :: d :: r) = textGo (i + 2) r := by
  rw [textGo]; simp [h, h2]
theorem textGo_bad {c : UInt8} {r : Bs} (h : c.toNat ≠ 34) (h2 : (c.toNat = 92 ∧ headB escB r = false) ∨ plainB c = false) (i : Nat) : textGo i (c :: r) = 0 := by
  have hp : plainB c = false → c.toNat ≠ 92 := by simp only [plainB, inB_no]; omega
  cases r with
  | nil => simp [textGo, h]
  | cons d r =>
    rw [textGo]
    simp only [headB] at h2
    rcases h2 with ⟨h3, h4⟩ | h3
    · simp [h3, h4]
    · simp [h, h3, hp h3]
theorem textGo_step {c : UInt8} (h : c.toNat ≠ 34) (h1 : c.toNat ≠ 92) (h2 : plainB c = true) (i : Nat) (r : Bs) : textGo i (c :: r) = textGo (i + 1) r := by
  cases r with
  | nil => simp [textGo, h]
  | cons d r => rw [textGo]; simp [h, h1, h2]
theorem text_len_good (s : Bs) (hs : s.length ≤ 1000000) : Good Tryz.prog 167 [.str s] [] [.int .i64 (textS s)] [] := by
  refine good_of hP Tryz.func167 (by kernel_rfl) (lv := [0, 2, 3, 4, 8, 14, 19, 45]) (js := []) ⟨rfl, rfl, rfl, rfl, rfl, rfl, _, rfl, ?_⟩
  conv => whnf
  refine loop_of hP [0, 2, 3, 4, 8, 14, 19, 45] [] [0, 2, 3] [] [] (fun n st => ∃ k : Nat, n = s.length + 1 - k ∧ 1 ≤ k ∧ (k ≤ s.length ∨ k = 1) ∧ textS s = textGo k (s.drop k) ∧ st = ⟨[(0, .str s), (2, .int .i64 0), (3, .int .i64 k)], []⟩) s.length ?_ ?_
  · conv => whnf
    exact ⟨1, by omega, by omega, .inr rfl, rfl, rfl⟩
  · rintro n st ⟨k, rfl, hk0, hk, he, rfl⟩
    conv => whnf
    refine branch_of (fun h => ?_) (fun h => ?_)
    · have h := of_decide_eq_true h
      have hk' : k < s.length := by omega
      rw [drop_cons hk'] at he
      conv => whnf
      refine ⟨s[k], ⟨by omega, by simp [hk']⟩, ?_⟩
      generalize hc : s[k] = c at he ⊢
      conv => whnf
      refine branch_of (fun h1 => ?_) (fun h1 => ?_)
      · have h1 := of_decide_eq_true h1
        conv => whnf
        refine fin0 ?_ trivial
        rw [he, textGo_quote (by omega), wr (by omega) (by omega)]; rfl
      · have h1 := of_decide_eq_false h1
        conv => whnf
        refine branch_of (fun h2 => ?_) (fun h2 => ?_)
        · have h2 := of_decide_eq_true h2
          conv => whnf
          refine branch_of (fun h3 => ?_) (fun h3 => ?_)
          · have h3 := of_decide_eq_true h3
            rw [wr (by omega) (by omega)] at h3
            have hk2 : k + 1 < s.length := by omega
            rw [drop_cons hk2] at he
            have hw : IntKind.i64.wrap ((k : Int) + 1) = (k + 1 : Nat) := wr (by omega) (by omega)
            refine ⟨s[k + 1], idx hk2 hw, ?_⟩
            have esc : escB s[k + 1] = true → ∃ m, m < s.length + 1 - k ∧ ∃ k' : Nat, m = s.length + 1 - k' ∧ 1 ≤ k' ∧ (k' ≤ s.length ∨ k' = 1) ∧ textS s = textGo k' (s.drop k') ∧ (⟨[(0, .str s), (2, .int .i64 0), (3, .int .i64 (IntKind.i64.wrap (IntKind.i64.wrap (k + 1) + 1)))], []⟩ : St) = ⟨[(0, .str s), (2, .int .i64 0), (3, .int .i64 k')], []⟩ := fun hd => by
              refine ⟨s.length + 1 - (k + 2), by omega, k + 2, rfl, by omega, by omega, by rw [he, textGo_esc (by omega) hd], ?_⟩
              rw [hw, wr (by omega) (by omega)]; rfl
            conv => whnf
            refine branch_of (fun h4 => ?_) (fun h4 => ?_)
            · have h4 := of_decide_eq_true h4
              conv => whnf
              exact esc (by simp [escB]; omega)
            · have h4 := of_decide_eq_false h4
              conv => whnf
              refine ⟨s[k + 1], idx hk2 hw, ?_⟩
              conv => whnf
              refine branch_of (fun h5 => ?_) (fun h5 => ?_)
              · have h5 := of_decide_eq_true h5
                conv => whnf
                exact esc (by simp [escB]; omega)
              · have h5 := of_decide_eq_false h5
                conv => whnf
                refine branch_of (fun h6 => ?_) (fun h6 => absurd (of_decide_eq_false h6) (by simp [h2]))
                conv => whnf
                refine fin0 ?_ trivial
                rw [he, textGo_bad (by omega) (.inl ⟨by omega, by simp [headB, escB]; omega⟩)]; rfl
          · have h3 := of_decide_eq_false h3
            rw [wr (by omega) (by omega)] at h3
            conv => whnf
            refine branch_of (fun h6 => ?_) (fun h6 => absurd (of_decide_eq_false h6) (by simp [h2]))
            conv => whnf
            refine fin0 ?_ trivial
            have : s.drop (k + 1) = [] := List.drop_eq_nil_iff.2 (by omega)
            rw [he, textGo_bad (by omega) (.inl ⟨by omega, by rw [this]; rfl⟩)]; rfl
        · have h2 := of_decide_eq_false h2
          conv => whnf
          refine branch_of (fun h6 => absurd (of_decide_eq_true h6) (by simp [h2])) (fun h6 => ?_)
          conv => whnf
          refine branch_of (fun h3 => ?_) (fun h3 => ?_)
          · have h3 := of_decide_eq_true h3
            conv => whnf
            refine fin0 ?_ trivial
            rw [he, textGo_bad (by omega) (.inr (by simp only [plainB, inB_no]; omega))]; rfl
          · have h3 := of_decide_eq_false h3
            conv => whnf
            refine branch_of (fun h4 => ?_) (fun h4 => ?_)
            · have h4 := of_decide_eq_true h4
              conv => whnf
              refine fin0 ?_ trivial
              rw [he, textGo_bad (by omega) (.inr (by simp only [plainB, inB_no]; omega))]; rfl
            · have h4 := of_decide_eq_false h4
              conv => whnf
              rw [textGo_step (by omega) (by omega) (by simp only [plainB, inB_iff]; omega)] at he
              refine ⟨s.length + 1 - (k + 1), by omega, k + 1, rfl, by omega, by omega, he, ?_⟩
              rw [wr (by omega) (by omega)]; rfl
    · have h := of_decide_eq_false h
      conv => whnf
      refine fin0 ?_ trivial
      have : s.drop k = [] := List.drop_eq_nil_iff.2 (by omega)
      rw [he, this]; rfl
end Go.PV
namespace Go.PV
open Go Go.Proofs
set_option maxRecDepth 100000
theorem indexByte_mem (l : Bs) (c : UInt8) : 0 ≤ Lib.indexByte l c ↔ c ∈ l := by
  induction l with
  | nil => simp [Lib.indexByte]
  | cons b l ih =>
    simp only [Lib.indexByte, List.mem_cons]
    by_cases h : b = c
    · simp [h]
    · have h' : ¬ c = b := fun e => h e.symm
      simp only [beq_iff_eq, h, h', if_false, false_or]
      split
      · rename_i e; rw [e] at ih; simp at ih ⊢; exact ih
      · rename_i e
        rw [← ih]
        have : -1 ≤ Lib.indexByte l c := by
          clear ih e h h'
          induction l with
          | nil => simp [Lib.indexByte]
          | cons b l ih => simp only [Lib.indexByte]; split
                           · omega
                           · split <;> omega
        omega
theorem sign_good (s : Bs) (hs : s ≠ []) : Good Tryz.prog 169 [.str s] [] [.int .i64 (signS s)] [] := by
  refine good_of hP Tryz.func169 (by kernel_rfl) (lv := [0, 2, 4, 5, 6, 7, 8, 13, 20]) (js := []) ⟨rfl, rfl, rfl, rfl, rfl, rfl, _, rfl, ?_⟩
  conv => whnf
  refine loop_of hP [0, 2, 4, 5, 6, 7, 8, 13, 20] [] [0, 2, 5, 6, 7] [69] [] (fun n st => ∃ k : Nat, n = 4 - k ∧ k ≤ 4 ∧ (0 < k → hasP s [33, 61] = false) ∧ (1 < k → hasP s [60, 61] = false) ∧ (2 < k → hasP s [45, 62] = false) ∧ (3 < k → hasP s [61, 62] = false) ∧ st = ⟨[(0, .str s), (2, .int .i64 0), (5, .own 69 0), (6, .int .i64 4), (7, .int .i64 k)], [(69, .arr 0 false 1 [[.str [33, 61]], [.str [60, 61]], [.str [45, 62]], [.str [61, 62]]])]⟩) 4 ?_ ?_
  · conv => whnf
    exact ⟨0, rfl, by omega, by omega, by omega, by omega, by omega, rfl⟩
  · rintro n st ⟨k, rfl, hk, h0, h1, h2, h3, rfl⟩
    have hl : 0 < s.length := List.length_pos_iff.2 hs
    match k, hk with
    | 0, _ =>
      conv => whnf
      refine ⟨⟨⟩, by decide, ?_⟩
      conv => whnf
      refine ⟨_, rfl, ?_⟩
      conv => whnf
      refine call0 (hasPrefix_good s [33, 61]) ?_
      cases h : hasP s [33, 61] with
      | true => conv => whnf
                exact fin0 (by simp [signS, h]) trivial
      | false =>
        conv => whnf
        exact ⟨3, by omega, 1, rfl, by omega, fun _ => rfl, by omega, by omega, by omega, rfl⟩
    | 1, _ =>
      conv => whnf
      refine ⟨⟨⟩, by decide, ?_⟩
      conv => whnf
      refine ⟨_, rfl, ?_⟩
      conv => whnf
      refine call0 (hasPrefix_good s [60, 61]) ?_
      cases h : hasP s [60, 61] with
      | true => conv => whnf
                exact fin0 (by simp [signS, h]) trivial
      | false =>
        conv => whnf
        exact ⟨2, by omega, 2, rfl, by omega, h0 ∘ by omega, fun _ => rfl, by omega, by omega, rfl⟩
    | 2, _ =>
      conv => whnf
      refine ⟨⟨⟩, by decide, ?_⟩
      conv => whnf
      refine ⟨_, rfl, ?_⟩
      conv => whnf
      refine call0 (hasPrefix_good s [45, 62]) ?_
      cases h : hasP s [45, 62] with
      | true => conv => whnf
                exact fin0 (by simp [signS, h]) trivial
      | false =>
        conv => whnf
        exact ⟨1, by omega, 3, rfl, by omega, h0 ∘ by omega, h1 ∘ by omega, fun _ => rfl, by omega, rfl⟩
    | 3, _ =>
      conv => whnf
      refine ⟨⟨⟩, by decide, ?_⟩
      conv => whnf
      refine ⟨_, rfl, ?_⟩
      conv => whnf
      refine call0 (hasPrefix_good s [61, 62]) ?_
      cases h : hasP s [61, 62] with
      | true => conv => whnf
                exact fin0 (by simp [signS, h]) trivial
      | false =>
        conv => whnf
        exact ⟨0, by omega, 4, rfl, by omega, h0 ∘ by omega, h1 ∘ by omega, h2 ∘ by omega, fun _ => rfl, rfl⟩
    | 4, _ =>
      have h0 := h0 (by omega)
      have h1 := h1 (by omega)
      have h2 := h2 (by omega)
      have h3 := h3 (by omega)
      conv => whnf
      refine ⟨s[0], idx hl rfl, ?_⟩
      conv => whnf
      refine call0 (indexByte_good signs1 s[0]) ?_
      obtain ⟨c, r, hcr, hc⟩ := head_at hl
      rw [hc]
      have hsg : signS s = if c ∈ signs1 then 1 else 0 := by
        unfold signS
        rw [h0, h1, h2, h3, hcr]; simp
      conv => whnf
      refine branch_of (fun h => ?_) (fun h => ?_)
      · have h := (indexByte_mem signs1 c).1 (of_decide_eq_true h)
        conv => whnf
        exact fin0 (by rw [hsg, if_pos h]; rfl) trivial
      · have h := fun e => of_decide_eq_false h ((indexByte_mem signs1 c).2 e)
        conv => whnf
        exact fin0 (by rw [hsg, if_neg h]; rfl) trivial
/-- the reader at a byte -/
def rd (s : Bs) (i : Nat) : Ob := .box 0 [.str s, .int .i64 i, .int .i64 (posS (s.take i)).1, .int .i64 (posS (s.take i)).2]
theorem pass_good (s : Bs) (i n : Nat) (hs : s.length ≤ 1000000) (hi : i + n ≤ s.length) : Good Tryz.prog 104 [.ptr 0 0 0, .int .i64 n] [rd s i] [] [rd s (i + n)] := by
  refine good_of hP Tryz.func104 (by kernel_rfl) (lv := [0, 1, 4, 5, 6, 25]) (js := []) ⟨rfl, rfl, rfl, rfl, rfl, rfl, _, rfl, ?_⟩
  conv => whnf
  refine loop_of hP [0, 1, 4, 5, 6, 25] [] [0, 4, 5] [] [] (fun m st => ∃ k : Nat, m = n - k ∧ k ≤ n ∧ st = ⟨[(0, .ptr 0 0 0), (4, .int .i64 n), (5, .int .i64 k)], [(0, rd s (i + k))]⟩) n ?_ ?_
  · conv => whnf
    exact ⟨0, rfl, Nat.zero_le _, rfl⟩
  · rintro m st ⟨k, rfl, hk, rfl⟩
    have hp := posS_le s (i + k) (by omega)
    conv => whnf
    refine branch_of (fun h => ?_) (fun h => ?_)
    · have h := of_decide_eq_true h
      have hk' : i + k < s.length := by omega
      conv => whnf
      refine ⟨s[i + k], idx hk' rfl, ?_⟩
      conv => whnf
      refine ⟨by kernel_rfl, ?_⟩
      have hpos := posS_snoc s hk'
      have hw1 : IntKind.i64.wrap ((posS (s.take (i + k))).2 + 1) = (posS (s.take (i + k))).2 + 1 := wr (by omega) (by omega)
      have hw2 : IntKind.i64.wrap ((posS (s.take (i + k))).1 + 1) = (posS (s.take (i + k))).1 + 1 := wr (by omega) (by omega)
      have hw3 : IntKind.i64.wrap (((i + k : Nat) : Int) + 1) = (i + (k + 1) : Nat) := by rw [wr (by omega) (by omega)]; omega
      have hw4 : IntKind.i64.wrap ((k : Int) + 1) = (k + 1 : Nat) := by rw [wr (by omega) (by omega)]; rfl
      conv => whnf
      refine branch_of (fun h => ?_) (fun h => ?_)
      · have h := of_decide_eq_true h
        rw [if_pos (by omega)] at hpos
        conv => whnf
        refine ⟨n - (k + 1), by omega, k + 1, rfl, by omega, ?_⟩
        rw [hw2, hw3, hw4, rd, ← Nat.add_assoc, hpos]
      · have h := of_decide_eq_false h
        rw [if_neg (by omega)] at hpos
        conv => whnf
        refine ⟨n - (k + 1), by omega, k + 1, rfl, by omega, ?_⟩
        rw [hw1, hw3, hw4, rd, ← Nat.add_assoc, hpos]
    · have h := of_decide_eq_false h
      have : k = n := by omega
      subst this
      conv => whnf
      refine ⟨[], rfl, ?_⟩
      conv => whnf
      exact ⟨⟨⟩, rfl, trivial⟩
theorem indexByte_len (l m : Bs) (c : UInt8) (h : c ∉ l) : Lib.indexByte (l ++ c :: m) c = l.length := by
  induction l with
  | nil => simp [Lib.indexByte]
  | cons b l ih =>
    simp only [List.mem_cons, not_or] at h
    have e := ih h.2
    simp only [List.cons_append, Lib.indexByte, e, List.length_cons]
    have hb : ¬ b = c := fun e => h.1 e.symm
    simp [hb]
/-- a comment, up to its line's end -/
def lineN (s : Bs) : Nat := (s.takeWhile fun c => decide (c.toNat ≠ 10)).length
theorem lineN_le (s : Bs) : lineN s ≤ s.length := (List.takeWhile_prefix _).length_le
theorem indexByte_line (s : Bs) : Lib.indexByte (s ++ [10]) 10 = lineN s := by
  have hx : ∀ x : UInt8, decide (x.toNat ≠ 10) = true → x ≠ 10 := fun x hx e => by subst e; simp at hx
  unfold lineN
  have hn : (10 : UInt8) ∉ s.takeWhile fun c => decide (c.toNat ≠ 10) := fun h => hx 10 (List.all_eq_true.1 (List.all_takeWhile (p := fun c : UInt8 => decide (c.toNat ≠ 10)) (l := s)) 10 h) rfl
  have := List.takeWhile_append_dropWhile (p := fun c : UInt8 => decide (c.toNat ≠ 10)) (l := s)
  cases hd : s.dropWhile fun c => decide (c.toNat ≠ 10) with
  | nil =>
    rw [hd, List.append_nil] at this
    rw [this] at hn ⊢
    exact indexByte_len s [] 10 hn
  | cons c r =>
    rw [hd] at this
    have hc : c = 10 := by
      have := List.head?_dropWhile_not (p := fun c : UInt8 => decide (c.toNat ≠ 10)) s
      rw [hd] at this; simp at this
      exact UInt8.toNat_inj.1 this
    subst hc
    conv => lhs; rw [← this, List.append_assoc]
    exact indexByte_len _ _ 10 hn
theorem blanksN_line (s : Bs) : blanksN true s = lineN s + blanksN false (s.drop (lineN s)) := by
  induction s with
  | nil => rfl
  | cons c r ih =>
    unfold lineN
    rw [List.takeWhile_cons]
    by_cases h : c.toNat = 10
    · simp [h, blanksN, blankB]
    · simp only [blanksN, h, decide_true, ne_eq, not_false_eq_true, if_true, if_false, List.length_cons, List.drop_succ_cons]
      rw [ih]; unfold lineN; simp only [ne_eq]; omega
theorem blanks_good (s : Bs) (i : Nat) (hs : s.length ≤ 1000000) (hi : i ≤ s.length) : Good Tryz.prog 102 [.ptr 0 0 0] [rd s i] [] [rd s (i + blanksN false (s.drop i))] := by
  refine good_of hP Tryz.func102 (by kernel_rfl) (lv := [0, 2, 12, 13, 35]) (js := []) ⟨rfl, rfl, rfl, rfl, rfl, rfl, _, rfl, ?_⟩
  conv => whnf
  refine loop_of hP [0, 2, 12, 13, 35] [] [0] [] [] (fun m st => ∃ k : Nat, m = s.length - k ∧ k ≤ s.length ∧ i + blanksN false (s.drop i) = k + blanksN false (s.drop k) ∧ st = ⟨[(0, .ptr 0 0 0)], [(0, rd s k)]⟩) (s.length - i) ?_ ?_
  · conv => whnf
    exact ⟨i, rfl, hi, rfl, rfl⟩
  · rintro m st ⟨k, rfl, hk, he, rfl⟩
    conv => whnf
    refine ⟨by kernel_rfl, ?_⟩
    conv => whnf
    refine branch_of (fun h => ?_) (fun h => ?_)
    · have h := of_decide_eq_true h
      have hk' : k < s.length := by omega
      rw [drop_cons hk'] at he
      conv => whnf
      refine ⟨s[k], idx hk' rfl, ?_⟩
      conv => whnf
      refine ⟨by kernel_rfl, ?_⟩
      conv => whnf
      refine branch_of (fun h1 => ?_) (fun h1 => ?_)
      · have h1 := of_decide_eq_true h1
        conv => whnf
        refine ⟨⟨⟩, by dsimp only; omega, ?_⟩
        conv => whnf
        refine ⟨⟨⟩, by dsimp only; simp only [List.length_drop, List.length_cons, List.length_nil, Int.toNat_natCast]; omega, ?_⟩
        conv => whnf
        refine call0 (indexByte_good (s.drop k ++ [10]) 10) ?_
        rw [indexByte_line]
        have hl := lineN_le (s.drop k)
        rw [List.length_drop] at hl
        have hl1 : 1 ≤ lineN (s.drop k) := by
          rw [drop_cons hk']; unfold lineN; rw [List.takeWhile_cons, if_pos (by simp; omega)]; simp
        conv => whnf
        refine ⟨by kernel_rfl, ?_⟩
        conv => whnf
        refine callN [(0, 0)] (pass_good s k (lineN (s.drop k)) hs (by omega)) ?_
        conv => whnf
        refine ⟨⟨⟩, rfl, ?_⟩
        conv => whnf
        refine ⟨s.length - (k + lineN (s.drop k)), by omega, k + lineN (s.drop k), rfl, by omega, ?_, rfl⟩
        have e2 := blanksN_line (s.drop k)
        have e3 : blanksN true (s.drop k) = 1 + blanksN true (s.drop (k + 1)) := by rw [drop_cons hk', blanksN, if_neg (by omega)]
        rw [List.drop_drop, e3] at e2
        rw [he, blanksN, if_pos (by omega)]
        omega
      · have h1 := of_decide_eq_false h1
        conv => whnf
        refine ⟨s[k], idx hk' rfl, ?_⟩
        conv => whnf
        refine call0 (blank_good _) ?_
        cases hb : blankB s[k] with
        | true =>
          conv => whnf
          refine ⟨by kernel_rfl, ?_⟩
          conv => whnf
          refine callN [(0, 0)] (pass_good s k 1 hs (by omega)) ?_
          conv => whnf
          refine ⟨⟨⟩, rfl, ?_⟩
          conv => whnf
          refine ⟨s.length - (k + 1), by omega, k + 1, rfl, by omega, ?_, rfl⟩
          rw [he, blanksN, if_neg (by omega), if_pos hb]; omega
        | false =>
          conv => whnf
          refine ⟨by kernel_rfl, ?_⟩
          conv => whnf
          refine ⟨[], rfl, ?_⟩
          conv => whnf
          rw [blanksN, if_neg (by omega), if_neg (by simp [hb])] at he
          rw [he]
          exact ⟨⟨⟩, rfl, trivial⟩
    · have h := of_decide_eq_false h
      conv => whnf
      refine ⟨[], rfl, ?_⟩
      conv => whnf
      have : s.drop k = [] := List.drop_eq_nil_iff.2 (by omega)
      rw [this] at he
      have hk3 : k = s.length := by omega
      rw [he]
      exact ⟨⟨⟩, rfl, trivial⟩
end Go.PV
namespace Go.PV
open Go
/-! signs, joined by blanks, are the same signs -/
/-- blank at the beginning, or at an end -/
def Stop (r : Bs) : Prop := r = [] ∨ ∃ c r', r = c :: r' ∧ (c.toNat = 32 ∨ c.toNat = 10 ∨ c.toNat = 9)
theorem Stop.not {r : Bs} (h : Stop r) (p : UInt8 → Bool) (hp : ∀ c : UInt8, c.toNat = 32 ∨ c.toNat = 10 ∨ c.toNat = 9 → p c = false) : r.takeWhile p = [] := by
  rcases h with rfl | ⟨c, r', rfl, hc⟩
  · rfl
  · rw [List.takeWhile_cons, if_neg (by rw [hp c hc]; simp)]
theorem textGo_gt : ∀ (s : Bs) (i : Nat), textGo i s = 0 ∨ i < textGo i s
  | [], i => by simp [textGo]
  | [c], i => by simp only [textGo]; split <;> simp
  | c :: d :: r, i => by
    have h1 := textGo_gt (d :: r) (i + 1)
    have h2 := textGo_gt r (i + 2)
    rw [textGo]
    split
    · omega
    · split
      · omega
      · split <;> omega
theorem textGo_cut : ∀ (s : Bs) (i n : Nat) (r : Bs), textGo i s = i + n → 0 < n → textGo i (s.take n ++ r) = i + n
  | [], i, n, r, h, hn => by simp [textGo] at h; omega
  | [c], i, n, r, h, hn => by
    simp only [textGo] at h
    split at h
    · rename_i hc
      have : n = 1 := by omega
      subst this
      show textGo i (c :: r) = _
      cases r <;> simp [textGo, hc]
    · omega
  | c :: d :: s, i, n, r, h, hn => by
    rw [textGo] at h
    split at h
    · rename_i hc
      have : n = 1 := by omega
      subst this
      show textGo i (c :: r) = _
      cases r <;> simp [textGo, hc]
    · rename_i hc
      split at h
      · rename_i he
        have hg := textGo_gt s (i + 2)
        obtain ⟨m, rfl⟩ : ∃ m, n = m + 2 := ⟨n - 2, by omega⟩
        have ih := textGo_cut s (i + 2) m r (by omega) (by omega)
        show textGo i (c :: d :: (s.take m ++ r)) = _
        rw [textGo, if_neg hc, if_pos he, ih]; omega
      · rename_i he
        split at h
        · omega
        · rename_i hb
          have hg := textGo_gt (d :: s) (i + 1)
          obtain ⟨m, rfl⟩ : ∃ m, n = m + 2 := ⟨n - 2, by omega⟩
          have ih := textGo_cut (d :: s) (i + 1) (m + 1) r (by omega) (by omega)
          show textGo i (c :: d :: (s.take m ++ r)) = _
          rw [textGo, if_neg hc, if_neg he, if_neg hb]
          show textGo (i + 1) ((d :: s).take (m + 1) ++ r) = _
          rw [ih]; omega
theorem hasP_two (a b : UInt8) (s : Bs) : hasP s [a, b] = true ↔ ∃ r, s = a :: b :: r := by
  constructor
  · intro h
    simp [hasP] at h
    match s, h with
    | [], h => simp at h
    | [x], h => simp at h
    | x :: y :: r, h => simp at h; exact ⟨r, by rw [h.1, h.2]⟩
  · rintro ⟨r, rfl⟩; simp [hasP]
/-- a sign's head is no blank, nor a comment's -/
theorem nextS_head {c : UInt8} {r : Bs} (h : (nextS (c :: r)).2.2 = true) : c.toNat ≠ 37 ∧ blankB c = false := by
  have hb : ∀ a b : Nat, inB a b c = true → 48 ≤ a → c.toNat ≠ 37 ∧ blankB c = false := fun a b h ha => by
    rw [inB_iff] at h; exact ⟨by omega, by simp [blankB]; omega⟩
  simp only [nextS] at h
  split at h
  · rename_i h1
    rcases h1 with h1 | h1
    · exact hb _ _ h1 (by omega)
    · exact hb _ _ h1 (by omega)
  · split at h
    · rename_i h1
      rcases h1 with h1 | ⟨h1, _⟩
      · exact hb _ _ h1 (by omega)
      · exact ⟨by omega, by simp [blankB]; omega⟩
    · split at h
      · rename_i h1
        exact ⟨by omega, by simp [blankB]; omega⟩
      · have hs := of_decide_eq_true h
        unfold signS at hs
        dsimp only at hs
        split at hs
        · rename_i h2
          simp only [hasP_two] at h2
          rcases h2 with ⟨_, h2⟩ | ⟨_, h2⟩ | ⟨_, h2⟩ | ⟨_, h2⟩ <;> (injection h2 with h3 _; subst h3; decide)
        · split at hs
          · rename_i h3
            simp only [signs1, List.mem_cons, List.mem_nil_iff, or_false] at h3
            rcases h3 with h3 | h3 | h3 | h3 | h3 | h3 | h3 | h3 | h3 | h3 | h3 | h3 | h3 <;> (subst h3; decide)
          · omega
end Go.PV
namespace Go.PV
open Go
/-! signs, between blanks -/
abbrev kt (t : Tok) : Int × Bs := (t.k, t.t)
def lens (l : List Tok) : Nat := (l.map fun t => t.t.length).sum
theorem chain_lens {s : Bs} : ∀ {l : List Tok} {lo : Nat}, Chain s lo l → lo ≤ s.length → lo + lens l ≤ s.length
  | [], lo, _, h => by simpa [lens] using h
  | t :: ts, lo, h, _ => by
    obtain ⟨i, h1, h2, h3, _, _, h6⟩ := h
    have := chain_lens h6 h2
    simp only [lens, List.map_cons, List.sum_cons] at this ⊢; omega
end Go.PV
namespace Go.PV
open Go
/-! signs one behind the other, blanks between or not, whatever stands behind -/
abbrev KT := Int × Bs
abbrev toksV (l : List Tok) : List (List V) := l.map Tok.c
def weaveK : List (Bs × KT) → Bs
  | [] => []
  | (b, t) :: r => b ++ (t.2 ++ weaveK r)
theorem weaveK_app : ∀ a b : List (Bs × KT), weaveK (a ++ b) = weaveK a ++ weaveK b
  | [], b => rfl
  | (x, t) :: r, b => by simp [weaveK, weaveK_app r b]
/-- what may stand behind a sign -/
def okEnd (t : KT) : Bs → Bool
  | [] => true
  | c :: _ => if t.1 = 1 ∨ t.1 = 2 then !letterB c else if t.1 = 3 then !digitB c else if t.1 = 4 then true
    else decide (t.2.length = 2) || (decide (c.toNat ≠ 61 ∧ c.toNat ≠ 62) && (decide (t.2 ≠ [45]) || !digitB c))
def Tk (t : KT) : Prop := nextS t.2 = (t.1, t.2.length, true)
theorem run_all {p : UInt8 → Bool} {s : Bs} (h : (s.takeWhile p).length = s.length) : s.takeWhile p = s :=
  (List.takeWhile_prefix p).eq_of_length h
theorem run_end {p : UInt8 → Bool} {s r : Bs} (h : (s.takeWhile p).length = s.length) (hr : headB p r = false) : (s ++ r).takeWhile p = s := by
  have hs := run_all h
  rw [List.takeWhile_append_of_pos (fun a ha => by rw [← hs] at ha; exact List.all_eq_true.1 List.all_takeWhile a ha)]
  cases r with
  | nil => simp
  | cons c r => simp only [headB] at hr; rw [List.takeWhile_cons, if_neg (by rw [hr]; simp), List.append_nil]
theorem nextS_end {t : KT} {r : Bs} (h : Tk t) (he : okEnd t r = true) : nextS (t.2 ++ r) = (t.1, t.2.length, true) := by
  obtain ⟨k, t⟩ := t
  unfold Tk at h
  dsimp only at h ⊢
  cases t with
  | nil => simp [nextS] at h
  | cons c s =>
    have hd : ∀ p : UInt8 → Bool, (∀ d q, r = d :: q → p d = false) → headB p r = false := fun p hp => by
      cases r with
      | nil => rfl
      | cons d q => exact hp d q rfl
    by_cases h1 : smallB c ∨ largeB c
    · have e : nextS (c :: s) = (if largeB c then 2 else 1, ((c :: s).takeWhile letterB).length, decide (((c :: s).takeWhile letterB).length ≤ 24)) := by rw [nextS, if_pos h1]
      rw [e] at h
      simp only [Prod.mk.injEq] at h
      obtain ⟨hk, hl, hd'⟩ := h
      have hk' : k = 1 ∨ k = 2 := by rw [← hk]; split <;> simp
      have hh : headB letterB r = false := hd _ fun d q e => by
        subst e
        rw [okEnd, if_pos hk'] at he
        simpa using he
      have hr := run_end hl hh
      rw [List.cons_append, nextS, if_pos h1, ← List.cons_append, hr]
      rw [hl] at hd'
      rw [hk]; simp only [hd']
    · by_cases h2 : digitB c ∨ (c.toNat = 45 ∧ headB digitB s)
      · have e : nextS (c :: s) = (3, 1 + (s.takeWhile digitB).length, (numberS ((c :: s).take (1 + (s.takeWhile digitB).length))).isSome) := by rw [nextS, if_neg h1, if_pos h2]
        rw [e] at h
        simp only [Prod.mk.injEq, List.length_cons] at h
        obtain ⟨hk, hl, hn⟩ := h
        have hl' : (s.takeWhile digitB).length = s.length := by omega
        have hh : headB digitB r = false := hd _ fun d q e => by
          subst e
          rw [okEnd, if_neg (by dsimp only; omega), if_pos (by dsimp only; omega)] at he
          simpa using he
        have hr := run_end hl' hh
        have h2' : digitB c ∨ (c.toNat = 45 ∧ headB digitB (s ++ r)) := by
          rcases h2 with h2 | ⟨h2, h3⟩
          · exact .inl h2
          · refine .inr ⟨h2, ?_⟩
            cases s with
            | nil => simp [headB] at h3
            | cons d s => exact h3
        rw [List.cons_append, nextS, if_neg h1, if_pos h2', hr]
        rw [hl] at hn
        have e1 : (c :: (s ++ r)).take (1 + s.length) = (c :: s).take (s.length + 1) := by
          rw [Nat.add_comm, List.take_succ_cons, List.take_succ_cons, List.take_left, List.take_length]
        rw [e1, hn, hk, List.length_cons, Nat.add_comm]
      · by_cases h3 : c.toNat = 34
        · have e : nextS (c :: s) = (4, textS (c :: s), decide (0 < textS (c :: s)) && (parseS ((c :: s).take (textS (c :: s)))).isSome) := by rw [nextS, if_neg h1, if_neg h2, if_pos h3]
          rw [e] at h
          simp only [Prod.mk.injEq] at h
          obtain ⟨hk, hl, hn⟩ := h
          have hx : textS (c :: s) = textGo 1 s := rfl
          have hsl : 0 < s.length := by
            cases s with
            | nil => simp [textS, textGo] at hl
            | cons d s => simp
          have hcut := textGo_cut s 1 s.length r (by rw [List.length_cons] at hl; omega) hsl
          rw [List.take_length] at hcut
          have ht : textS (c :: (s ++ r)) = (c :: s).length := by show textGo 1 (s ++ r) = _; rw [hcut, List.length_cons]; omega
          have hn2 : ¬ (digitB c ∨ (c.toNat = 45 ∧ headB digitB (s ++ r))) := by
            rintro (h | ⟨h, _⟩)
            · exact h2 (.inl h)
            · omega
          rw [List.cons_append, nextS, if_neg h1, if_neg hn2, if_pos h3, ht, ← List.cons_append, List.take_left]
          rw [hl, List.take_length] at hn
          rw [hn, hk]
        · have e : nextS (c :: s) = (5, signS (c :: s), decide (0 < signS (c :: s))) := by rw [nextS, if_neg h1, if_neg h2, if_neg h3]
          rw [e] at h
          simp only [Prod.mk.injEq] at h
          obtain ⟨hk, hl, hn⟩ := h
          by_cases hany : hasP (c :: s) [33, 61] ∨ hasP (c :: s) [60, 61] ∨ hasP (c :: s) [45, 62] ∨ hasP (c :: s) [61, 62]
          · have e2 : signS (c :: s) = 2 := by unfold signS; rw [if_pos hany]
            rw [e2] at hl
            match s, hl with
            | [b], _ =>
              have hany2 : hasP (c :: b :: r) [33, 61] ∨ hasP (c :: b :: r) [60, 61] ∨ hasP (c :: b :: r) [45, 62] ∨ hasP (c :: b :: r) [61, 62] := by
                simpa [hasP] using hany
              have hb : digitB b = false := by
                simp only [hasP_two] at hany
                rcases hany with ⟨_, h⟩ | ⟨_, h⟩ | ⟨_, h⟩ | ⟨_, h⟩ <;> (simp only [List.cons.injEq] at h; obtain ⟨_, rfl, _⟩ := h; decide)
              have e3 : signS (c :: b :: r) = 2 := by unfold signS; rw [if_pos hany2]
              show nextS (c :: b :: r) = _
              rw [nextS, if_neg h1, if_neg (by rintro (h | ⟨_, h⟩); exact h2 (.inl h); simp [headB, hb] at h), if_neg h3, e3, ← hk]
              rfl
          · have e2 : signS (c :: s) = if c ∈ signs1 then 1 else 0 := by unfold signS; rw [if_neg hany]
            have hmem : c ∈ signs1 := by
              by_cases hm : c ∈ signs1
              · exact hm
              · have := of_decide_eq_true hn; rw [e2, if_neg hm] at this; omega
            rw [e2, if_pos hmem] at hl
            match s, hl with
            | [], _ =>
              have hc2 : ∀ d q, r = d :: q → (d.toNat ≠ 61 ∧ d.toNat ≠ 62) ∧ (c.toNat = 45 → digitB d = false) := fun d q e => by
                subst e
                rw [okEnd, if_neg (by dsimp only; omega), if_neg (by dsimp only; omega), if_neg (by dsimp only; omega)] at he
                simp at he
                refine ⟨he.1, fun h45 => ?_⟩
                rcases he.2 with h | h
                · exact absurd (UInt8.toNat_inj.1 (by rw [h45]; rfl)) h
                · exact h
              have hno : ∀ a b : UInt8, (b.toNat = 61 ∨ b.toNat = 62) → ¬ hasP (c :: r) [a, b] = true := fun a b hb hh => by
                obtain ⟨q, hq⟩ := (hasP_two a b _).1 hh
                injection hq with _ hq
                have := (hc2 b q hq).1
                omega
              have e3 : signS (c :: r) = 1 := by
                unfold signS
                rw [if_neg]
                · dsimp only; rw [if_pos hmem]
                · rintro (h | h | h | h)
                  · exact hno _ _ (by decide) h
                  · exact hno _ _ (by decide) h
                  · exact hno _ _ (by decide) h
                  · exact hno _ _ (by decide) h
              show nextS (c :: r) = _
              rw [nextS, if_neg h1, if_neg, if_neg h3, e3, ← hk]
              · rfl
              · rintro (h | ⟨h45, h⟩)
                · exact h2 (.inl h)
                · cases r with
                  | nil => simp [headB] at h
                  | cons d q => rw [headB, (hc2 d q rfl).2 h45] at h; cases h
def blk (b : Bs) : Bool := b.all blankB
theorem blk_sp {b : Bs} (h : blk b = true) (y : Bs) : blanksN false (b ++ y) = b.length + blanksN false y := by
  induction b with
  | nil => simp
  | cons c b ih =>
    simp only [blk, List.all_cons, Bool.and_eq_true] at h
    have hc : c.toNat ≠ 37 := by have := h.1; simp [blankB] at this; omega
    rw [List.cons_append, blanksN, if_neg hc, if_pos h.1, ih h.2, List.length_cons]; omega
def WovK (tail : Bs) : List (Bs × KT) → Prop
  | [] => True
  | (b, t) :: r => blk b = true ∧ Tk t ∧ okEnd t (weaveK r ++ tail) = true ∧ WovK tail r
theorem WovK.app {tail : Bs} : ∀ {a b : List (Bs × KT)}, WovK (weaveK b ++ tail) a → WovK tail b → WovK tail (a ++ b)
  | [], b, _, h => h
  | (x, t) :: r, b, ⟨h1, h2, h3, h4⟩, h => ⟨h1, h2, by show okEnd t (weaveK (r ++ b) ++ tail) = true; rw [weaveK_app, List.append_assoc]; exact h3, WovK.app h4 h⟩
/-- the signs with their places -/
def posL (w : Bs) : Nat → List (Bs × KT) → List Tok
  | _, [] => []
  | i, (b, t) :: r => ⟨t.1, t.2, posS (w.take (i + b.length))⟩ :: posL w (i + b.length + t.2.length) r
theorem posL_kt (w : Bs) : ∀ (l : List (Bs × KT)) (i : Nat), (posL w i l).map kt = l.map (·.2)
  | [], i => rfl
  | (b, t) :: r, i => by simp only [posL, List.map_cons, posL_kt w r]
theorem tk_pos {t : KT} (h : Tk t) : 1 ≤ t.2.length := by
  have := nextS_pos (s := t.2) (by rw [h]); rw [h] at this; exact this
theorem head_tk {t : KT} (h : Tk t) {r : Bs} (hr : okEnd t r = true) : blanksN false (t.2 ++ r) = 0 := by
  have := nextS_end h hr
  have h1 := tk_pos h
  cases ht : t.2 with
  | nil => rw [ht] at h1; simp at h1
  | cons c u =>
    rw [ht] at this
    have hh := nextS_head (c := c) (r := u ++ r) (by rw [List.cons_append] at this; rw [this])
    rw [List.cons_append, blanksN, if_neg hh.1, if_neg (by rw [hh.2]; simp)]
theorem wovK_go (tail : Bs) : ∀ (l : List (Bs × KT)) (pre w : Bs) (f : Nat), WovK tail l → w = pre ++ (weaveK l ++ tail) → l.length ≤ f →
    toksGo w f (pre.length + blanksN false (weaveK l ++ tail)) =
      (posL w pre.length l ++ (toksGo w (f - l.length) ((pre ++ weaveK l).length + blanksN false tail)).1, (toksGo w (f - l.length) ((pre ++ weaveK l).length + blanksN false tail)).2)
  | [], pre, w, f, _, hw, _ => by simp [weaveK, posL]
  | (b, t) :: r, pre, w, f, ⟨h1, h2, h3, h4⟩, hw, hf => by
    obtain ⟨f, rfl⟩ : ∃ f', f = f' + 1 := ⟨f - 1, by simp at hf; omega⟩
    have hb : blanksN false (weaveK ((b, t) :: r) ++ tail) = b.length := by
      rw [weaveK, List.append_assoc, List.append_assoc, blk_sp h1, head_tk h2 h3]; rfl
    rw [hb]
    have hd : w.drop (pre.length + b.length) = t.2 ++ (weaveK r ++ tail) := by
      rw [hw, weaveK, List.append_assoc, List.append_assoc, ← List.append_assoc, ← List.length_append, List.drop_left]
    have hp := tk_pos h2
    have hlt : pre.length + b.length < w.length := by
      have := congrArg List.length hd
      rw [List.length_drop, List.length_append] at this
      omega
    have hn := nextS_end h2 h3
    have hd2 : w.drop (pre.length + b.length + t.2.length) = weaveK r ++ tail := by
      rw [← List.drop_drop, hd, List.drop_left]
    have ih := wovK_go tail r (pre ++ (b ++ t.2)) w f h4 (by rw [hw, weaveK]; simp) (by simp at hf; omega)
    have hl : (pre ++ (b ++ t.2)).length = pre.length + b.length + t.2.length := by simp; omega
    have e1 : pre ++ (b ++ t.2) ++ weaveK r = pre ++ weaveK ((b, t) :: r) := by simp [weaveK]
    rw [hl, e1] at ih
    have e2 : f + 1 - ((b, t) :: r).length = f - r.length := by simp
    rw [toksGo, if_pos hlt, hd, hn]
    dsimp only
    rw [if_pos rfl, hd2, ih, e2, List.take_left]
    rfl
theorem wovK_len {tail : Bs} : ∀ {l : List (Bs × KT)}, WovK tail l → l.length ≤ (weaveK l).length
  | [], _ => Nat.zero_le _
  | (b, t) :: r, ⟨_, h2, _, h4⟩ => by
    have := wovK_len h4
    have := tk_pos h2
    simp only [weaveK, List.length_cons, List.length_append]; omega
theorem blanks_all {b : Bs} (h : blk b = true) : blanksN false b = b.length := by
  have := blk_sp h []
  simpa [blanksN] using this
theorem toksGo_end (w : Bs) (f i : Nat) (h : w.length ≤ i) : toksGo w f i = ([], none) := by
  cases f with
  | zero => rfl
  | succ f => rw [toksGo, if_neg (by omega)]
/-- a text of signs alone -/
theorem wovK_S {l : List (Bs × KT)} {tail : Bs} (h : WovK tail l) (ht : blk tail = true) : toksS (weaveK l ++ tail) = (posL (weaveK l ++ tail) 0 l, none) := by
  have := wovK_go tail l [] (weaveK l ++ tail) (weaveK l ++ tail).length h rfl (by have := wovK_len h; simp; omega)
  simp only [List.length_nil, Nat.zero_add, List.nil_append] at this
  have e : toksS (weaveK l ++ tail) = toksGo (weaveK l ++ tail) (weaveK l ++ tail).length (blanksN false (weaveK l ++ tail)) := rfl
  rw [e, this, blanks_all ht, toksGo_end _ _ _ (by simp)]
  simp
theorem wovK_R {l : List (Bs × KT)} {tail : Bs} (h : WovK tail l) (ht : blk tail = true) : toksR (weaveK l ++ tail) = posL (weaveK l ++ tail) 0 l ∧ errR (weaveK l ++ tail) = 0 ∧ posR (weaveK l ++ tail) = (0, 0) := by
  have := wovK_S h ht
  unfold toksR errR posR
  rw [this]; exact ⟨rfl, rfl, rfl⟩
end Go.PV
namespace Go.PV
open Go Go.Proofs
set_option maxRecDepth 100000
abbrev nextV (s : Bs) : V := .agg [.int .i64 (nextS s).1, .str (s.take (nextS s).2.1), .int .i64 0, .int .i64 0]
theorem next_good (s : Bs) (hs : s.length ≤ 100000) (h0 : s ≠ []) : Good Tryz.prog 103 [.str s] [] [nextV s, .bool (nextS s).2.2] [] := by
  refine good_of hP Tryz.func103 (by kernel_rfl) (lv := [0, 2, 3, 4, 5, 6, 7, 9, 10, 12, 13, 16, 26, 34, 67]) (js := [200002, 200008]) ⟨rfl, rfl, rfl, rfl, rfl, rfl, _, rfl, ?_⟩
  have hl : 0 < s.length := List.length_pos_iff.2 h0
  obtain ⟨c, r, hcr, hc⟩ := head_at hl
  conv => whnf
  refine ⟨c, by rw [← hc]; exact idx hl rfl, ?_⟩
  conv => whnf
  refine seq_of hP [0, 2, 3, 4, 5, 6, 7, 9, 10, 12, 13, 16, 26, 34, 67] [200002, 200008] [0, 2, 3, 4, 16] [66] [] (fun st => st = ⟨[(0, .str s), (2, .ptr 66 0 0), (3, .bool false), (4, .int .u8 c.toNat), (16, .bool (decide (smallB c ∨ largeB c)))], [(66, .box 0 [.int .i64 0, .str [], .int .i64 0, .int .i64 0])]⟩) ?_ ?_
  · conv => whnf
    refine call0 (small_good _) ?_
    cases h1 : smallB c with
    | true => conv => whnf
              rfl
    | false =>
      conv => whnf
      refine call0 (large_good _) ?_
      conv => whnf
      simp only [Bool.false_eq_true, false_or, Bool.decide_eq_true]
  rintro st rfl
  conv => whnf
  refine branch_of (fun h => ?_) (fun h => ?_)
  · have h := of_decide_eq_true h
    have hr := takeWhile_len (p := letterB) s
    have e : nextS s = (if largeB c then 2 else 1, (s.takeWhile letterB).length, decide ((s.takeWhile letterB).length ≤ 24)) := by
      conv => lhs; rw [hcr]
      rw [nextS, if_pos h, ← hcr]
    conv => whnf
    refine call0 (run_good s (by omega) _ letterB letter_good) ?_
    conv => whnf
    refine call0 (large_good _) ?_
    cases h2 : largeB c with
    | true =>
      rw [h2] at e
      conv => whnf
      refine ⟨⟨⟩, by dsimp only; omega, ?_⟩
      conv => whnf
      refine fin0 ?_ trivial
      simp [nextV, e]; omega
    | false =>
      rw [h2] at e
      conv => whnf
      refine ⟨⟨⟩, by dsimp only; omega, ?_⟩
      conv => whnf
      refine fin0 ?_ trivial
      simp [nextV, e]; omega
  · have hn := of_decide_eq_false h
    conv => whnf
    refine seq_of hP [0, 2, 3, 4, 5, 6, 7, 9, 10, 12, 13, 16, 26, 34, 67] [200002, 200008] [0, 2, 3, 4, 34] [66] [] (fun st => st = ⟨[(0, .str s), (2, .ptr 66 0 0), (3, .bool false), (4, .int .u8 c.toNat), (34, .bool (decide (digitB c ∨ (c.toNat = 45 ∧ headB digitB r))))], [(66, .box 0 [.int .i64 0, .str [], .int .i64 0, .int .i64 0])]⟩) ?_ ?_
    · conv => whnf
      refine call0 (digit_good _) ?_
      cases h1 : digitB c with
      | true => conv => whnf
                rfl
      | false =>
        conv => whnf
        refine branch_of (fun h2 => ?_) (fun h2 => ?_)
        · have h2 : c.toNat = 45 := by have := of_decide_eq_true h2; omega
          conv => whnf
          refine branch_of (fun h3 => ?_) (fun h3 => ?_)
          · have h3 := of_decide_eq_true h3
            have h31 : 1 < s.length := by omega
            have hd : headB digitB r = digitB s[1] := by
              have : r = s[1] :: s.drop 2 := by
                have e := drop_cons h31
                conv at e => lhs; rw [hcr]
                simpa using e
              rw [this]; rfl
            conv => whnf
            refine ⟨s[1], idx h31 rfl, ?_⟩
            conv => whnf
            refine call0 (digit_good _) ?_
            conv => whnf
            simp only [h2, hd, Bool.false_eq_true, false_or, true_and, Bool.decide_eq_true]
          · have h3 := of_decide_eq_false h3
            have hr : r = [] := by
              rw [hcr] at h3; simp at h3
              exact List.eq_nil_of_length_eq_zero (by omega)
            subst hr
            conv => whnf
            simp only [h2, headB, Bool.false_eq_true, and_false, or_false, decide_false]
        · have h2 : c.toNat ≠ 45 := by have := of_decide_eq_false h2; omega
          conv => whnf
          simp only [h2, false_and, Bool.false_eq_true, or_false, decide_false]
    rintro st rfl
    conv => whnf
    refine branch_of (fun h => ?_) (fun h => ?_)
    · have h := of_decide_eq_true h
      have hr := takeWhile_len (p := digitB) r
      have hrl : s.length = r.length + 1 := by rw [hcr]; rfl
      have e : nextS s = (3, 1 + (r.takeWhile digitB).length, (numberS (s.take (1 + (r.takeWhile digitB).length))).isSome) := by
        conv => lhs; rw [hcr]
        rw [nextS, if_neg hn, if_pos h, ← hcr]
      have hd : s.drop 1 = r := by rw [hcr]; rfl
      conv => whnf
      refine ⟨⟨⟩, by dsimp only; omega, ?_⟩
      conv => whnf
      refine call0 (run_good r (by omega) _ digitB digit_good) ?_ (by rw [← hd]; rfl)
      have hw : IntKind.i64.wrap (1 + ((r.takeWhile digitB).length : Int)) = (1 + (r.takeWhile digitB).length : Nat) := by rw [wr (by omega) (by omega)]; omega
      conv => whnf
      refine ⟨⟨⟩, by dsimp only; rw [hw]; omega, ?_⟩
      conv => whnf
      refine call0 (number_good (s.take (1 + (r.takeWhile digitB).length)) (by simp; omega)) ?_ (by rw [hw]; rfl)
      conv => whnf
      refine ⟨⟨⟩, by dsimp only; rw [hw]; omega, ?_⟩
      conv => whnf
      refine fin0 ?_ trivial
      rw [hw]
      simp only [nextV, e]; rfl
    · have hn2 := of_decide_eq_false h
      conv => whnf
      refine branch_of (fun h => ?_) (fun h => ?_)
      · have h : c.toNat = 34 := by have := of_decide_eq_true h; omega
        have e : nextS s = (4, textS s, decide (0 < textS s) && (parseS (s.take (textS s))).isSome) := by
          conv => lhs; rw [hcr]
          rw [nextS, if_neg hn, if_neg hn2, if_pos h, ← hcr]
        have hr := textS_le s h0
        conv => whnf
        refine call0 (text_len_good s (by omega)) ?_
        conv => whnf
        refine ⟨⟨⟩, by dsimp only; omega, ?_⟩
        conv => whnf
        refine call0 (parse_good (s.take (textS s)) (by simp; omega)) ?_
        conv => whnf
        refine ⟨⟨⟩, by dsimp only; omega, ?_⟩
        conv => whnf
        refine branch_of (fun h => ?_) (fun h => ?_)
        · have h := of_decide_eq_true h
          conv => whnf
          refine fin0 ?_ trivial
          simp only [nextV, e]
          cases hp : parseS (s.take (textS s)) <;> simp <;> omega
        · have h := of_decide_eq_false h
          conv => whnf
          refine fin0 ?_ trivial
          simp only [nextV, e]
          simp; omega
      · have hn3 : c.toNat ≠ 34 := by have := of_decide_eq_false h; omega
        have e : nextS s = (5, signS s, decide (0 < signS s)) := by
          conv => lhs; rw [hcr]
          rw [nextS, if_neg hn, if_neg hn2, if_neg hn3, ← hcr]
        have hr := signS_le s
        conv => whnf
        refine call0 (sign_good s h0) ?_
        conv => whnf
        refine ⟨⟨⟩, by dsimp only; omega, ?_⟩
        conv => whnf
        refine fin0 ?_ trivial
        simp only [nextV, e]
        simp
theorem tokens_good (s : Bs) (hs : s.length ≤ 20000) : Good Tryz.prog 49 [.str s] [] [.sl 4 (toksV (toksR s)), .agg [.int .i64 (posR s).1, .int .i64 (posR s).2], .int .i64 (errR s)] [] := by
  refine good_of hP Tryz.func49 (by kernel_rfl) (lv := [0, 2, 3, 4, 5, 6, 7, 10, 24, 36]) (js := []) ⟨rfl, rfl, rfl, rfl, rfl, rfl, _, rfl, ?_⟩
  conv => whnf
  refine branch_of (fun h => absurd (of_decide_eq_true h) (by omega)) (fun _ => ?_)
  conv => whnf
  have hb := blanksN_le false s
  refine callN [(79, 0)] (blanks_good s 0 (by omega) (by omega)) ?_
  rw [List.drop_zero, Nat.zero_add]
  conv => whnf
  refine ⟨⟨⟩, rfl, ?_⟩
  conv => whnf
  refine loop_of hP [0, 2, 3, 4, 5, 6, 7, 10, 24, 36] [] [0, 2, 3, 4, 5] [66, 67, 79] [.slot 2 4] (fun f st => ∃ (i : Nat) (acc : List Tok), i ≤ s.length ∧ s.length ≤ f + i ∧ acc.length ≤ i ∧ toksS s = (acc ++ (toksGo s f i).1, (toksGo s f i).2) ∧ st = ⟨[(0, .str s), (2, .own 66 0), (3, .ptr 67 0 0), (4, .int .i64 0), (5, .ptr 79 0 0)], [(66, .arr 0 false 4 (toksV acc)), (67, .box 0 [.int .i64 0, .int .i64 0]), (79, rd s i)]⟩) s.length ?_ ?_
  · conv => whnf
    exact ⟨blanksN false s, [], hb, by omega, Nat.zero_le _, rfl, rfl⟩
  · rintro f st ⟨i, acc, hi, hf, hacc, he, rfl⟩
    conv => whnf
    refine branch_of (fun h => ?_) (fun h => ?_)
    · have h := of_decide_eq_true h
      have hi' : i < s.length := by omega
      obtain ⟨f, rfl⟩ : ∃ f', f = f' + 1 := ⟨f - 1, by omega⟩
      conv => whnf
      refine ⟨⟨⟩, by dsimp only; omega, ?_⟩
      conv => whnf
      have hne : s.drop i ≠ [] := fun e => by have := congrArg List.length e; simp at this; omega
      have hn := nextS_le (s.drop i)
      rw [List.length_drop] at hn
      refine call0 (next_good (s.drop i) (by simp; omega) hne) ?_
      rw [toksGo, if_pos hi'] at he
      dsimp only at he
      cases hx : (nextS (s.drop i)).2.2 with
      | false =>
        rw [hx, if_neg (by simp)] at he
        conv => whnf
        refine ⟨by kernel_rfl, ?_⟩
        conv => whnf
        refine fin0 ?_ trivial
        simp [toksR, errR, posR, he]
      | true =>
        rw [hx, if_pos rfl] at he
        have hp := nextS_pos hx
        conv => whnf
        refine ⟨⟨⟩, by dsimp only; simp only [List.length_map, List.length_cons, List.length_nil]; omega, ?_⟩
        conv => whnf
        have hlen : ((s.drop i).take (nextS (s.drop i)).2.1).length = (nextS (s.drop i)).2.1 := by simp; omega
        generalize hN : (nextS (s.drop i)).2.1 = N at *
        refine callN [(79, 0)] (pass_good s i N (by omega) (by omega)) ?_ (by rw [hlen]; rfl)
        conv => whnf
        refine ⟨⟨⟩, rfl, ?_⟩
        conv => whnf
        refine callN [(79, 0)] (blanks_good s (i + N) (by omega) (by omega)) ?_
        have hb2 := blanksN_le false (s.drop (i + N))
        rw [List.length_drop] at hb2
        generalize hB : blanksN false (s.drop (i + N)) = B at *
        conv => whnf
        refine ⟨⟨⟩, rfl, ?_⟩
        conv => whnf
        refine ⟨f, by omega, i + N + B, acc ++ [⟨(nextS (s.drop i)).1, (s.drop i).take N, posS (s.take i)⟩], by omega, by omega, by simp; omega, by rw [he]; simp, ?_⟩
        rw [show toksV (acc ++ [⟨(nextS (s.drop i)).1, (s.drop i).take N, posS (s.take i)⟩]) = toksV acc ++ [Tok.c ⟨(nextS (s.drop i)).1, (s.drop i).take N, posS (s.take i)⟩] from List.map_append]
        rfl
    · have h := of_decide_eq_false h
      have hg : toksGo s f i = ([], none) := by
        cases f with
        | zero => rfl
        | succ f => rw [toksGo, if_neg (by omega)]
      rw [hg, List.append_nil] at he
      conv => whnf
      refine fin0 ?_ trivial
      simp [toksR, errR, posR, he]
end Go.PV
namespace Go.PV
open Go Go.RowKit
/-! structs of plain cells: the same, or not -/
def sv : V → Value
  | .int k n => .int k n
  | .bool b => .bool b
  | .str l => .string ⟨l.toArray⟩
  | _ => undef
def isS : V → Bool
  | .int _ _ => true
  | .bool _ => true
  | .str _ => true
  | _ => false
theorem scals_sv : ∀ {l : List V}, l.all isS = true → scals l = some (l.map sv)
  | [], _ => rfl
  | p :: l, h => by
    rw [List.all_cons, Bool.and_eq_true] at h
    have ih := scals_sv h.2
    cases p <;> first | (simp [isS] at h; done) | simp [scals, scal, sv, ih]
section
variable {P : Program}
def EqFs (P : Program) (d : Nat) (fs : List Field) (l m : List V) (r : Bool) : Prop := ∀ w, (Op.eqFields d (l.map sv).toArray (m.map sv).toArray fs).run P w = .ok r w
theorem EqFs.nil {d : Nat} {l m : List V} : EqFs P d [] l m true := fun w => by simp [Op.eqFields]
theorem part_s {t : TypeId} {l : List V} {o : Nat} {p : V} (ha : ∀ w, (isAgg t).run P w = .ok false w) (h : l[o]? = some p) (w : World) : (part t (l.map sv).toArray o).run P w = .ok (sv p) w := by
  simp [part, ha, h]
theorem part_a {t : TypeId} {l : List V} {o n : Nat} (ha : ∀ w, (isAgg t).run P w = .ok true w) (hs : ∀ w, (Go.sizeOf t).run P w = .ok n w) (w : World) : (part t (l.map sv).toArray o).run P w = .ok (.agg (((l.drop o).take n).map sv).toArray) w := by
  simp [part, ha, hs]
theorem EqFs.cons {d : Nat} {f : Field} {fs : List Field} {l m : List V} {r1 r2 : Bool} {a b : Value} (hn : f.name ≠ "_") (ha : ∀ w, (part f.type (l.map sv).toArray f.offset).run P w = .ok a w) (hb : ∀ w, (part f.type (m.map sv).toArray f.offset).run P w = .ok b w)
    (he : ∀ w, (Op.equalIn d f.type a b).run P w = .ok r1 w) (h : EqFs P d fs l m r2) : EqFs P d (f :: fs) l m (r1 && r2) := fun w => by
  simp only [Op.eqFields, if_pos hn, Sem.run_bind, ha, hb, he, Result.andThen_ok, Sem.run_ite]
  cases r1 with
  | false => simp
  | true => simpa using h w
theorem agg_none {t : TypeId} (h : (match P.underlying t with | some (.struct _) => false | some (.array _ _) => false | some _ => true | none => false) = true) : ∀ w, (isAgg t).run P w = .ok false w := fun w => by
  split at h
  · cases h
  · cases h
  · rename_i d h1 h2 hf
    simp only [isAgg, Sem.run_bind, run_underlying hf, Result.andThen_ok]
    rfl
  · cases h
theorem EqFs.int {d : Nat} {f : Field} {fs : List Field} {l m : List V} {r : Bool} {k k' : IntKind} {x y : Int} (hn : f.name ≠ "_") (hu : P.underlying f.type = some (.int k')) (hl : l[f.offset]? = some (.int k x)) (hm : m[f.offset]? = some (.int k y)) (h : EqFs P (d + 1) fs l m r) : EqFs P (d + 1) (f :: fs) l m (decide (x = y) && r) :=
  EqFs.cons hn (part_s (agg_none (by rw [hu])) hl) (part_s (agg_none (by rw [hu])) hm) (fun w => by
    rw [show sv (.int k x) = .int k x from rfl, show sv (.int k y) = .int k y from rfl, run_equalIn_int w d _ _ _ _ _ hu]; congr 1) h
theorem EqFs.str {d : Nat} {f : Field} {fs : List Field} {l m : List V} {r : Bool} {x y : List UInt8} (hn : f.name ≠ "_") (hu : P.underlying f.type = some .string) (hl : l[f.offset]? = some (.str x)) (hm : m[f.offset]? = some (.str y)) (h : EqFs P (d + 1) fs l m r) : EqFs P (d + 1) (f :: fs) l m (decide (x = y) && r) :=
  EqFs.cons hn (part_s (agg_none (by rw [hu])) hl) (part_s (agg_none (by rw [hu])) hm) (fun w => by
    rw [show sv (.str x) = .string ⟨x.toArray⟩ from rfl, show sv (.str y) = .string ⟨y.toArray⟩ from rfl, run_equalIn_string w d _ _ _ hu, tl_str, tl_str]
    rw [show (x == y) = decide (x = y) by rw [Bool.eq_iff_iff]; simp]) h
theorem equalIn_of {d : Nat} {t : TypeId} {l m : List V} {r : Bool} (ht : P.underlying t = some (.struct (P.fieldsOf t))) (hp : P.stoodInHeld t = false) (h : EqFs P d (P.fieldsOf t).toList l m r) (w : World) : (Op.equalIn (d + 1) t (.agg (l.map sv).toArray) (.agg (m.map sv).toArray)).run P w = .ok r w := by
  rw [run_equalIn_agg w d t _ _ ht hp]; exact h w
theorem EqFs.sub {d : Nat} {f : Field} {fs : List Field} {l m : List V} {r1 r : Bool} {i : TypeInfo} (hn : f.name ≠ "_") (ht : P.underlying f.type = some (.struct (P.fieldsOf f.type))) (hp : P.stoodInHeld f.type = false) (hi : P.toTables.info? f.type = some i)
    (h1 : EqFs P d (P.fieldsOf f.type).toList ((l.drop f.offset).take i.size) ((m.drop f.offset).take i.size) r1) (h : EqFs P (d + 1) fs l m r) : EqFs P (d + 1) (f :: fs) l m (r1 && r) :=
  EqFs.cons hn (part_a (fun w => by simp [isAgg, run_underlying ht]) (run_sizeOf hi)) (part_a (fun w => by simp [isAgg, run_underlying ht]) (run_sizeOf hi)) (equalIn_of ht hp h1) h
theorem eqV_of {t : TypeId} {l m : List V} {r : Bool} (hl : l.all isS = true) (hm : m.all isS = true) (ht : P.underlying t = some (.struct (P.fieldsOf t))) (hp : P.stoodInHeld t = false) (hg : P.eqGuardType P.depth t = false) (h : EqFs P 9999 (P.fieldsOf t).toList l m r) :
    EqV P .eql t l m r ∧ EqV P .neq t l m (!r) := by
  refine ⟨⟨_, _, scals_sv hl, scals_sv hm, fun w x y => ?_⟩, ⟨_, _, scals_sv hl, scals_sv hm, fun w x y => ?_⟩⟩
  · rw [Sem.run_bind, run_eqGuard_agg w _ _ _ _ _ _ hg, Result.andThen_ok, run_eql_struct, equalIn_of ht hp h]; rfl
  · rw [Sem.run_bind, run_eqGuard_agg w _ _ _ _ _ _ hg, Result.andThen_ok, run_neq_struct, equalIn_of ht hp h]; rfl
end
end Go.PV
namespace Go.PV
open Go
/-! the page's words: a word, a number, a string in quotes -/
def refWordS (large : Bool) (s : Bs) : Bool := decide (1 ≤ s.length) && decide (s.length ≤ 24) && headB (fun c => if large then largeB c else smallB c) s && s.all letterB
def digN (l : Bs) : Nat := l.foldl (fun n c => 10 * n + (c.toNat - 48)) 0
def signed (s : Bs) : Bool := headB (fun c => decide (c.toNat = 45)) s
def unS (s : Bs) : Bs := if signed s then s.drop 1 else s
def refNumS (s : Bs) : Option Int :=
  if unS s = [] ∨ ¬ (unS s).all digitB ∨ 4611686018427387904 < digN (unS s) then none else some (if signed s then -(digN (unS s) : Int) else digN (unS s))
def refQGo : Bs → Bs → Bs × Bool
  | _, [] => ([], false)
  | out, c :: r =>
    if c.toNat = 34 then (out, decide (r = []) && decide (out.length ≤ 60))
    else if c.toNat = 92 then (match r with
      | d :: r' => if escB d then refQGo (out ++ [d]) r' else ([], false)
      | [] => ([], false))
    else if plainB c then refQGo (out ++ [c]) r else ([], false)
def refQuotedS (s : Bs) : Bs × Bool := match s with
  | c :: d :: r => if c.toNat = 34 then refQGo [] (d :: r) else ([], false)
  | _ => ([], false)
theorem refQ_quote {c : UInt8} (h : c.toNat = 34) (out r : Bs) : refQGo out (c :: r) = (out, decide (r = []) && decide (out.length ≤ 60)) := by cases r <;> rw [refQGo, if_pos h]
theorem refQ_esc {c d : UInt8} (h : c.toNat = 92) (hd : escB d = true) (out r : Bs) : refQGo out (c :: d :: r) = refQGo (out ++ [d]) r := by rw [refQGo, if_neg (by omega), if_pos h, if_pos hd]
theorem refQ_bad {c : UInt8} {r : Bs} (h : c.toNat ≠ 34) (h2 : (c.toNat = 92 ∧ headB escB r = false) ∨ (c.toNat ≠ 92 ∧ plainB c = false)) (out : Bs) : refQGo out (c :: r) = ([], false) := by
  rcases h2 with ⟨h2, h3⟩ | ⟨h2, h3⟩
  · cases r with
    | nil => rw [refQGo, if_neg h, if_pos h2]
    | cons d r => simp only [headB] at h3; rw [refQGo, if_neg h, if_pos h2, if_neg (by rw [h3]; simp)]
  · cases r <;> rw [refQGo, if_neg h, if_neg h2, if_neg (by rw [h3]; simp)]
theorem refQ_step {c : UInt8} (h : c.toNat ≠ 34) (h1 : c.toNat ≠ 92) (h2 : plainB c = true) (out r : Bs) : refQGo out (c :: r) = refQGo (out ++ [c]) r := by
  cases r with
  | nil => simp [refQGo, h, h1, h2]
  | cons d r => rw [refQGo, if_neg h, if_neg h1, if_pos h2]
theorem small_not_large {c : UInt8} (h : smallB c = true) : largeB c = false := by
  simp only [smallB, largeB, inB_iff, inB_no] at *; omega
theorem large_not_small {c : UInt8} (h : largeB c = true) : smallB c = false := by
  simp only [smallB, largeB, inB_iff, inB_no] at *; omega
/-! the page's signs -/
def refText : Nat → Bs → Nat
  | _, [] => 0
  | i, c :: r => if c.toNat = 34 then i + 1 else match r with
    | d :: r' => if c.toNat = 92 then refText (i + 2) r' else refText (i + 1) (d :: r')
    | [] => 0
def twoB (t : Bs) : Bool := decide (t = [33, 61] ∨ t = [60, 61] ∨ t = [45, 62] ∨ t = [61, 62])
def refRight (k : Int) (t : Bs) : Bool :=
  if k = 1 then refWordS false t else if k = 2 then refWordS true t else if k = 3 then (refNumS t).isSome else if k = 4 then (refQuotedS t).2
  else (decide (t.length = 1) && headB (fun c => decide (c ∈ signs1)) t) || twoB t
theorem refText_quote {c : UInt8} (h : c.toNat = 34) (i : Nat) (r : Bs) : refText i (c :: r) = i + 1 := by
  cases r <;> rw [refText, if_pos h]
theorem refText_esc {c : UInt8} (h : c.toNat = 92) (i : Nat) (d : UInt8) (r : Bs) : refText i (c :: d :: r) = refText (i + 2) r := by
  rw [refText, if_neg (by omega), if_pos h]
theorem refText_step {c : UInt8} (h : c.toNat ≠ 34) (h1 : c.toNat ≠ 92) (i : Nat) (r : Bs) : refText i (c :: r) = refText (i + 1) r := by
  cases r with
  | nil => simp [refText, h]
  | cons d r => rw [refText, if_neg h, if_neg h1]
end Go.PV
namespace Go.PV
open Go
/-! numerals -/
theorem dig_nat {d : Nat} (h : d < 10) : (UInt8.ofNat (48 + d)).toNat = 48 + d := by rw [UInt8.toNat_ofNat']; omega
theorem dec_parse : ∀ (n u : Nat) (r : List UInt8), u ≤ n → u < 9223372036854775809 → Lib.parseUint10 0 (Lib.decDigits u ++ r) = Lib.parseUint10 u r
  | n, u, r, hn, hu => by
    rw [Lib.decDigits]
    by_cases h : u < 10
    · rw [dif_pos h]
      simp only [List.cons_append, List.nil_append, Lib.parseUint10, dig_nat h]
      rw [if_pos (by omega), if_neg (by omega), if_neg (by omega)]
      congr 1; omega
    · rw [dif_neg h]
      cases n with
      | zero => omega
      | succ n =>
        rw [List.append_assoc, dec_parse n (u / 10) _ (by omega) (by omega)]
        simp only [List.cons_append, List.nil_append, Lib.parseUint10, dig_nat (show u % 10 < 10 by omega)]
        rw [if_pos (by omega), if_neg (by omega), if_neg (by omega)]
        congr 1; omega
theorem dec_digits : ∀ (n u : Nat), u ≤ n → ∀ c ∈ Lib.decDigits u, 48 ≤ c.toNat ∧ c.toNat ≤ 57
  | n, u, hn, c, hc => by
    rw [Lib.decDigits] at hc
    by_cases h : u < 10
    · rw [dif_pos h] at hc
      rw [List.mem_singleton.1 hc, dig_nat h]; omega
    · rw [dif_neg h] at hc
      cases n with
      | zero => omega
      | succ n =>
        rcases List.mem_append.1 hc with hc | hc
        · exact dec_digits n (u / 10) (by omega) c hc
        · rw [List.mem_singleton.1 hc, dig_nat (show u % 10 < 10 by omega)]; omega
theorem dec_cons (u : Nat) : ∃ c r, Lib.decDigits u = c :: r ∧ 48 ≤ c.toNat ∧ c.toNat ≤ 57 := by
  cases h : Lib.decDigits u with
  | nil =>
    have := Lib.decDigits_length u
    rw [h] at this
    have := Lib.nDigits_pos u
    simp at *; omega
  | cons c r => exact ⟨c, r, rfl, dec_digits u u (Nat.le_refl _) c (by rw [h]; exact List.mem_cons_self ..)⟩
theorem dec_mag {u : Nat} (h : u < 9223372036854775809) : Lib.parseMag (Lib.decDigits u) = .ok u := by
  obtain ⟨c, r, e, _⟩ := dec_cons u
  have := dec_parse u u [] (Nat.le_refl _) h
  rw [List.append_nil] at this
  unfold Lib.parseMag
  rw [if_neg (by rw [e]; simp), this]
  rfl
theorem atoi_itoa {n : Int} (h : inR n = true) : Lib.atoiAll (Lib.itoa n) = .ok n := by
  simp only [inR, decide_eq_true_eq] at h
  unfold Lib.itoa
  by_cases hn : n < 0
  · rw [if_pos hn]
    have hm := dec_mag (show n.natAbs < 9223372036854775809 by omega)
    have : (45 : UInt8).toNat = 45 := rfl
    simp only [Lib.atoiAll, this, or_true, if_true, hm, not_true, false_and, if_false, true_and]
    rw [if_neg (by omega)]
    congr 1; omega
  · rw [if_neg hn]
    have hm := dec_mag (show n.toNat < 9223372036854775809 by omega)
    obtain ⟨c, r, e, h1, h2⟩ := dec_cons n.toNat
    rw [e] at hm ⊢
    simp only [Lib.atoiAll]
    rw [if_neg (show ¬ (c.toNat = 43 ∨ c.toNat = 45) by omega), hm]
    simp only
    rw [if_neg (by omega), if_neg (by omega), if_neg (by omega)]
    congr 1; omega
theorem digN_app (l : Bs) (c : UInt8) : digN (l ++ [c]) = 10 * digN l + (c.toNat - 48) := by unfold digN; rw [List.foldl_append]; rfl
theorem digN_dec : ∀ (n u : Nat), u ≤ n → digN (Lib.decDigits u) = u
  | n, u, hn => by
    rw [Lib.decDigits]
    by_cases h : u < 10
    · rw [dif_pos h]
      show 10 * 0 + ((UInt8.ofNat (48 + u)).toNat - 48) = u
      rw [dig_nat h]; omega
    · rw [dif_neg h]
      cases n with
      | zero => omega
      | succ n =>
        rw [digN_app, digN_dec n (u / 10) (by omega), dig_nat (show u % 10 < 10 by omega)]; omega
theorem digN_pos : ∀ (n : Nat) (l : Bs), l.length ≤ n → l.all digitB = true → headB (fun c => decide (c.toNat = 48)) l = false → l ≠ [] → 0 < digN l ∧ Lib.decDigits (digN l) = l
  | 0, l, hn, _, _, hne => absurd (List.eq_nil_of_length_eq_zero (by omega)) hne
  | n + 1, l, hn, hd, hz, hne => by
    obtain ⟨m, c, rfl⟩ : ∃ m c, l = m ++ [c] := ⟨l.dropLast, l.getLast hne, (List.dropLast_concat_getLast hne).symm⟩
    rw [List.all_append, Bool.and_eq_true] at hd
    have hc : 48 ≤ c.toNat ∧ c.toNat ≤ 57 := by have := hd.2; simp [digitB, inB] at this; exact this
    have ho : UInt8.ofNat (48 + (c.toNat - 48)) = c := by
      apply UInt8.toNat_inj.1; rw [dig_nat (by omega)]; omega
    rw [digN_app]
    by_cases hm : m = []
    · subst hm
      simp only [List.nil_append, headB, decide_eq_false_iff_not] at hz
      have h0 : digN [] = 0 := rfl
      rw [h0]
      refine ⟨by omega, ?_⟩
      rw [Lib.decDigits, dif_pos (by omega), List.nil_append, Nat.mul_zero, Nat.zero_add, ho]
    · have hz2 : headB (fun c => decide (c.toNat = 48)) m = false := by
        cases m with
        | nil => exact absurd rfl hm
        | cons a m => exact hz
      have ih := digN_pos n m (by simp at hn; omega) hd.1 hz2 hm
      refine ⟨by omega, ?_⟩
      rw [Lib.decDigits, dif_neg (by omega), show (10 * digN m + (c.toNat - 48)) / 10 = digN m by omega, show (10 * digN m + (c.toNat - 48)) % 10 = c.toNat - 48 by omega, ih.2, ho]
theorem digN_zero (l : Bs) : digN (48 :: l) = digN l := rfl
theorem trim0_zero {c : UInt8} (h : c.toNat = 48) (l : Bs) : trim0 (c :: l) = trim0 l := by unfold trim0; rw [List.dropWhile_cons, if_pos (by simp; omega)]
theorem trim0_no {c : UInt8} (h : c.toNat ≠ 48) (l : Bs) : trim0 (c :: l) = c :: l := by unfold trim0; rw [List.dropWhile_cons, if_neg (by simp; omega)]
theorem trim0_facts (l : Bs) (h : l.all digitB = true) : digN (trim0 l) = digN l ∧ (trim0 l).all digitB = true ∧ headB (fun c => decide (c.toNat = 48)) (trim0 l) = false := by
  induction l with
  | nil => exact ⟨rfl, rfl, rfl⟩
  | cons c l ih =>
    rw [List.all_cons, Bool.and_eq_true] at h
    by_cases hc : c.toNat = 48
    · have : c = 48 := UInt8.toNat_inj.1 hc
      rw [trim0_zero hc, this, digN_zero]; exact ih h.2
    · rw [trim0_no hc]
      exact ⟨rfl, by rw [List.all_cons, h.1, h.2]; rfl, by simp [headB, hc]⟩
theorem numRest_unS (s : Bs) : hasP s [45] = signed s ∧ numRest s = unS s := by
  have e : hasP s [45] = signed s := by
    cases s with
    | nil => rfl
    | cons c r =>
      simp only [hasP, signed, headB, List.length_cons, List.length_nil]
      have : (List.take (0 + 1) (c :: r) = [45]) ↔ c.toNat = 45 := by
        simp only [Nat.zero_add, List.take_succ_cons, List.take_zero, List.cons.injEq, and_true]
        exact ⟨fun h => by rw [h]; rfl, fun h => UInt8.toNat_inj.1 h⟩
      simp only [this]; simp
  exact ⟨e, by unfold numRest unS; rw [e]⟩
/-- a canonical numeral parses where its number is within the bounds -/
theorem parse_canon {z : Bs} (hd : z.all digitB = true) (hz : headB (fun c => decide (c.toNat = 48)) z = false) (hne : z ≠ []) (b : Bool) :
    parseS (if b then 45 :: z else z) = if digN z ≤ 4611686018427387904 then some ⟨1, if b then -(digN z : Int) else digN z, []⟩ else none := by
  obtain ⟨hp, hdec⟩ := digN_pos z.length z (Nat.le_refl _) hd hz hne
  obtain ⟨c, r, rfl⟩ := List.exists_cons_of_ne_nil hne
  have hc : digitB c = true := by rw [List.all_cons, Bool.and_eq_true] at hd; exact hd.1
  have hcn : 48 ≤ c.toNat ∧ c.toNat ≤ 57 := by simpa [digitB, inB] using hc
  generalize hm : digN (c :: r) = m at *
  have hi : Lib.itoa (if b then -(m : Int) else m) = if b then 45 :: c :: r else c :: r := by
    cases b with
    | true => rw [if_pos rfl, if_pos rfl, ← hdec]; unfold Lib.itoa; rw [if_pos (by omega)]; simp
    | false => rw [if_neg (by simp), if_neg (by simp), ← hdec]; unfold Lib.itoa; rw [if_neg (by omega)]; simp
  generalize hv : (if b then -(m : Int) else m) = v at *
  have hva : v.natAbs = m := by cases b <;> simp at hv <;> omega
  have hg : guessS (if b then 45 :: c :: r else c :: r) = if atoiOk (if b then 45 :: c :: r else c :: r) then some ⟨1, atoiN (if b then 45 :: c :: r else c :: r), []⟩ else none := by
    cases b with
    | true => rfl
    | false => simp only [if_neg (show ¬ (false = true) by simp)]; unfold guessS; dsimp only; rw [if_neg (by omega), if_pos (.inr hc)]
  generalize hT : (if b then 45 :: c :: r else c :: r) = T at *
  by_cases hle : m ≤ 4611686018427387904
  · have hin : inR v = true := by simp only [inR, decide_eq_true_eq]; omega
    have ha := atoi_itoa hin
    rw [hi] at ha
    have h1 : atoiOk T = true := by unfold atoiOk; rw [ha]
    have h2 : atoiN T = v := by unfold atoiN; rw [ha]
    have hck : checkS ⟨1, v, []⟩ = true := by simp [checkS, hin]
    have htx : textV ⟨1, v, []⟩ = T := by unfold textV; rw [hck, if_pos rfl, if_pos rfl]; exact hi
    rw [if_pos hle, parseS, hg, h1, if_pos rfl, h2]
    dsimp only
    rw [hck, htx]; simp
  · rw [if_neg hle, parseS, hg]
    split
    · rename_i v' hv'
      split at hv'
      · injection hv' with hv'
        subst hv'
        rw [if_neg]
        intro hcon
        simp only [Bool.and_eq_true, decide_eq_true_eq] at hcon
        obtain ⟨hck, htx⟩ := hcon
        have hin : inR (atoiN T) = true := by simp [checkS] at hck; exact hck
        unfold textV at htx
        rw [hck, if_pos rfl, if_pos rfl] at htx
        generalize atoiN T = a at *
        rw [← hi] at htx
        have e1 : ∀ x : Int, (if x < 0 then digN ((Lib.itoa x).drop 1) else digN (Lib.itoa x)) = x.natAbs := fun x => by
          unfold Lib.itoa
          split
          · exact digN_dec _ _ (Nat.le_refl _)
          · rw [digN_dec _ _ (Nat.le_refl _)]; omega
        have e2 : ∀ x : Int, signed (Lib.itoa x) = decide (x < 0) := fun x => by
          unfold Lib.itoa
          split
          · rename_i h; simp [signed, headB, h]
          · rename_i h
            obtain ⟨c', r', e', h3, h4⟩ := dec_cons x.toNat
            rw [e']; simp [signed, headB, h]; omega
        have e3 := e2 a
        rw [htx, e2 v, decide_eq_decide] at e3
        have e4 := e1 a
        rw [htx] at e4
        have e5 := e1 v
        have : a.natAbs = v.natAbs := by
          by_cases hv0 : v < 0
          · rw [if_pos hv0] at e5; rw [if_pos (e3.1 hv0)] at e4; omega
          · rw [if_neg hv0] at e5; rw [if_neg (fun h => hv0 (e3.2 h))] at e4; omega
        simp only [inR, decide_eq_true_eq] at hin
        omega
      · cases hv'
    · rfl
/-- both number readers agree -/
theorem number_ref (s : Bs) : numberS s = (refNumS s).map fun n => ⟨1, n, []⟩ := by
  obtain ⟨h1, h2⟩ := numRest_unS s
  unfold numberS refNumS
  rw [h1, h2]
  by_cases hne : unS s = []
  · rw [if_pos (.inl hne), if_pos (.inl hne)]; rfl
  by_cases hd : (unS s).all digitB = true
  · obtain ⟨t1, t2, t3⟩ := trim0_facts (unS s) hd
    have hn1 : ¬ (unS s = [] ∨ ¬ (unS s).all digitB = true) := by rintro (h | h); exact hne h; exact h hd
    rw [if_neg hn1]
    by_cases hz : trim0 (unS s) = []
    · have h0 : digN (unS s) = 0 := by rw [← t1, hz]; rfl
      have hn2 : ¬ (unS s = [] ∨ ¬ (unS s).all digitB = true ∨ 4611686018427387904 < digN (unS s)) := by rintro (h | h | h); exact hne h; exact h hd; omega
      rw [if_pos hz, if_neg hn2, h0]
      generalize signed s = b
      cases b <;> rfl
    · rw [if_neg hz, parse_canon t2 t3 hz, t1]
      by_cases hle : digN (unS s) ≤ 4611686018427387904
      · have hn2 : ¬ (unS s = [] ∨ ¬ (unS s).all digitB = true ∨ 4611686018427387904 < digN (unS s)) := by rintro (h | h | h); exact hne h; exact h hd; omega
        rw [if_pos hle, if_neg hn2]; rfl
      · have hp2 : unS s = [] ∨ ¬ (unS s).all digitB = true ∨ 4611686018427387904 < digN (unS s) := .inr (.inr (by omega))
        rw [if_neg hle, if_pos hp2]; rfl
  · rw [if_pos (.inr hd), if_pos (.inr (.inl hd))]; rfl
end Go.PV
namespace Go.PV
open Go
/-! strings in quotes: both readers -/
theorem refText_gt : ∀ (s : Bs) (i : Nat), refText i s = 0 ∨ i < refText i s
  | [], i => by simp [refText]
  | [c], i => by simp only [refText]; split <;> simp
  | c :: d :: r, i => by
    have h1 := refText_gt (d :: r) (i + 1)
    have h2 := refText_gt r (i + 2)
    rw [refText]
    split
    · omega
    · split <;> omega
theorem esc_quote {d : UInt8} (h : escB d = true) : quoteB d = [92, d] := by unfold quoteB; rw [if_pos h]
theorem esc_plain {d : UInt8} (h : escB d = true) : plainB d = true := by simp [escB] at h; simp only [plainB, inB_iff]; omega
theorem no_quote {c : UInt8} (h : c.toNat ≠ 34) (h1 : c.toNat ≠ 92) : quoteB c = [c] := by unfold quoteB; rw [if_neg (by simp [escB]; omega)]
theorem textGo_quote0 {c : UInt8} (h : c.toNat = 34) (i : Nat) (r : Bs) : textGo i (c :: r) = i + 1 := by
  cases r <;> simp [textGo, h]
theorem bareM_no0 {c : UInt8} (h : c.toNat ≠ 92) (r : Bs) : bareM (c :: r) = c :: bareM r := by
  cases r with
  | nil => rfl
  | cons d r => simp [bareM, h]
theorem bareM_esc0 {c : UInt8} (h : c.toNat = 92) (d : UInt8) (r : Bs) : bareM (c :: d :: r) = d :: bareM r := by simp [bareM, h]
def Reads (i : Nat) (s : Bs) : Prop :=
  (∀ n, textGo i s = i + n → 0 < n → refText i s = i + n ∧ ∃ m, s.take n = m ++ [34] ∧ (∀ out, refQGo out (s.take n) = (out ++ bareM m, decide ((out ++ bareM m).length ≤ 60))) ∧ (bareM m).flatMap quoteB = m ∧ (bareM m).all plainB = true) ∧
  (textGo i s = 0 → ∀ q, refText i s = i + q → 0 < q → ∀ out, (refQGo out (s.take q)).2 = false)
theorem reads_quote {c : UInt8} (hc : c.toNat = 34) (i : Nat) (r : Bs) : Reads i (c :: r) := by
  have h1 := textGo_quote0 hc i r
  have h2 := refText_quote hc i r
  refine ⟨fun n hn hp => ?_, fun h => by omega⟩
  have : n = 1 := by omega
  subst this
  have hc2 : c = 34 := UInt8.toNat_inj.1 hc
  refine ⟨by omega, [], by rw [hc2]; rfl, fun out => ?_, rfl, rfl⟩
  show refQGo out [c] = _
  rw [refQ_quote hc]; simp [bareM]
theorem reads : ∀ (s : Bs) (i : Nat), Reads i s
  | [], i => ⟨fun n h hp => by simp [textGo] at h; omega, fun _ q h hq => by simp [refText] at h; omega⟩
  | [c], i => by
    by_cases hc : c.toNat = 34
    · exact reads_quote hc i []
    · refine ⟨fun n h hp => by simp [textGo, hc] at h; omega, fun _ q h hq => by simp [refText, hc] at h; omega⟩
  | c :: d :: s, i => by
    by_cases hc : c.toNat = 34
    · exact reads_quote hc i _
    have ih1 := reads (d :: s) (i + 1)
    have ih2 := reads s (i + 2)
    by_cases h92 : c.toNat = 92
    · have hc2 : c = 92 := UInt8.toNat_inj.1 h92
      have er := refText_esc h92 i d s
      have gr := refText_gt s (i + 2)
      by_cases hd : escB d = true
      · have et : textGo i (c :: d :: s) = textGo (i + 2) s := by rw [textGo, if_neg hc, if_pos ⟨h92, hd⟩]
        have gt := textGo_gt s (i + 2)
        refine ⟨fun n hn hp => ?_, fun h0 q hq hp out => ?_⟩
        · obtain ⟨k, rfl⟩ : ∃ k, n = k + 2 := ⟨n - 2, by omega⟩
          obtain ⟨a1, m, a2, a3, a4, a5⟩ := ih2.1 k (by omega) (by omega)
          refine ⟨by omega, c :: d :: m, by simp [a2], fun out => ?_, ?_, ?_⟩
          · show refQGo out (c :: d :: s.take k) = _
            rw [refQ_esc h92 hd, a3, bareM_esc0 h92]; simp
          · rw [bareM_esc0 h92, List.flatMap_cons, esc_quote hd, a4, hc2]; rfl
          · rw [bareM_esc0 h92, List.all_cons, esc_plain hd, a5]; rfl
        · obtain ⟨k, rfl⟩ : ∃ k, q = k + 2 := ⟨q - 2, by omega⟩
          show (refQGo out (c :: d :: s.take k)).2 = false
          rw [refQ_esc h92 hd]
          exact ih2.2 (by omega) k (by omega) (by omega) _
      · have et : textGo i (c :: d :: s) = 0 := by rw [textGo, if_neg hc, if_neg (fun h => hd h.2), if_pos (.inl h92)]
        refine ⟨fun n hn hp => by omega, fun h0 q hq hp out => ?_⟩
        obtain ⟨k, rfl⟩ : ∃ k, q = k + 2 := ⟨q - 2, by omega⟩
        show (refQGo out (c :: d :: s.take k)).2 = false
        rw [refQ_bad hc (.inl ⟨h92, by simp only [headB]; simpa using hd⟩)]
    · have er := refText_step hc h92 i (d :: s)
      have gr := refText_gt (d :: s) (i + 1)
      by_cases hpl : plainB c = true
      · have et : textGo i (c :: d :: s) = textGo (i + 1) (d :: s) := by rw [textGo, if_neg hc, if_neg (fun h => h92 h.1), if_neg (by rintro (h | h); exact h92 h; exact h hpl)]
        have gt := textGo_gt (d :: s) (i + 1)
        refine ⟨fun n hn hp => ?_, fun h0 q hq hp out => ?_⟩
        · obtain ⟨k, rfl⟩ : ∃ k, n = k + 1 := ⟨n - 1, by omega⟩
          obtain ⟨a1, m, a2, a3, a4, a5⟩ := ih1.1 k (by omega) (by omega)
          refine ⟨by omega, c :: m, by rw [List.take_succ_cons, a2]; rfl, fun out => ?_, ?_, ?_⟩
          · rw [List.take_succ_cons, refQ_step hc h92 hpl, a3, bareM_no0 h92]; simp
          · rw [bareM_no0 h92, List.flatMap_cons, no_quote hc h92, a4]; rfl
          · rw [bareM_no0 h92, List.all_cons, hpl, a5]; rfl
        · obtain ⟨k, rfl⟩ : ∃ k, q = k + 1 := ⟨q - 1, by omega⟩
          rw [List.take_succ_cons, refQ_step hc h92 hpl]
          exact ih1.2 (by omega) k (by omega) (by omega) _
      · have et : textGo i (c :: d :: s) = 0 := by rw [textGo, if_neg hc, if_neg (fun h => h92 h.1), if_pos (.inr hpl)]
        refine ⟨fun n hn hp => by omega, fun h0 q hq hp out => ?_⟩
        obtain ⟨k, rfl⟩ : ∃ k, q = k + 1 := ⟨q - 1, by omega⟩
        rw [List.take_succ_cons, refQ_bad hc (.inr ⟨h92, by simpa using hpl⟩)]
/-- a string in quotes parses where its inside is short enough -/
theorem parse_str {m : Bs} (h4 : (bareM m).flatMap quoteB = m) (h5 : (bareM m).all plainB = true) : (parseS (34 :: (m ++ [34]))).isSome = decide ((bareM m).length ≤ 60) := by
  have hb : bareS (34 :: (m ++ [34])) = bareM m := by
    unfold bareS
    have : (34 :: (m ++ [34]) : Bs).length - 2 = m.length := by simp
    rw [this]
    show bareM ((m ++ [34]).take m.length) = _
    rw [List.take_left]
  have hg : guessS (34 :: (m ++ [34])) = some ⟨3, 0, bareM m⟩ := by
    unfold guessS; dsimp only
    rw [if_pos (by decide), hb]
  have hc : checkS ⟨3, 0, bareM m⟩ = decide ((bareM m).length ≤ 60) := by
    simp [checkS, plainS, h5]
  rw [parseS, hg]
  dsimp only
  cases hl : decide ((bareM m).length ≤ 60) with
  | false => rw [hc, hl]; rfl
  | true =>
    have ht : textV ⟨3, 0, bareM m⟩ = 34 :: (m ++ [34]) := by
      unfold textV; rw [hc, hl, if_pos rfl, if_neg (by simp), if_neg (by simp)]
      unfold quotedS; rw [h4]; rfl
    rw [hc, hl, ht]; simp
end Go.PV
namespace Go.PV
open Go
/-! values' texts are signs, and are read back -/
theorem bareM_flat : ∀ s : Bs, s.all plainB = true → bareM (s.flatMap quoteB) = s
  | [], _ => rfl
  | c :: s, h => by
    rw [List.all_cons, Bool.and_eq_true] at h
    have ih := bareM_flat s h.2
    rw [List.flatMap_cons]
    by_cases he : escB c = true
    · rw [esc_quote he]
      show bareM (92 :: c :: s.flatMap quoteB) = _
      rw [bareM_esc0 (by decide), ih]
    · have h1 : c.toNat ≠ 34 ∧ c.toNat ≠ 92 := by simp [escB] at he; omega
      rw [no_quote h1.1 h1.2]
      show bareM (c :: s.flatMap quoteB) = _
      rw [bareM_no0 h1.2, ih]
theorem parse_quoted {s : Bs} (h : plainS s = true) : parseS (quotedS s) = some ⟨3, 0, s⟩ := by
  unfold plainS at h
  rw [Bool.and_eq_true, decide_eq_true_eq] at h
  have hb := bareM_flat s h.1
  have hbs : bareS (quotedS s) = s := by
    unfold bareS quotedS
    have : (34 :: s.flatMap quoteB ++ [34] : Bs).length - 2 = (s.flatMap quoteB).length := by simp
    rw [this]
    show bareM ((s.flatMap quoteB ++ [34]).take _) = _
    rw [List.take_left, hb]
  have hg : guessS (quotedS s) = some ⟨3, 0, s⟩ := by
    unfold guessS quotedS
    rw [List.cons_append]; dsimp only
    rw [if_pos (by decide)]
    rw [show (34 :: (s.flatMap quoteB ++ [34]) : Bs) = quotedS s from rfl, hbs]
  have hc : checkS ⟨3, 0, s⟩ = true := by simp [checkS, plainS, h.1, h.2]
  have ht : textV ⟨3, 0, s⟩ = quotedS s := by unfold textV; rw [hc, if_pos rfl, if_neg (by simp), if_neg (by simp)]
  rw [parseS, hg]; dsimp only
  rw [hc, ht]; simp
theorem itoa_head (n : Int) : ∃ c r, Lib.itoa n = c :: r ∧ (c.toNat = 45 ∧ n < 0 ∧ r = Lib.decDigits n.natAbs ∨ digitB c = true ∧ 0 ≤ n ∧ c :: r = Lib.decDigits n.toNat) := by
  unfold Lib.itoa
  by_cases hn : n < 0
  · rw [if_pos hn]; exact ⟨_, _, rfl, .inl ⟨rfl, hn, rfl⟩⟩
  · rw [if_neg hn]
    obtain ⟨c, r, e, h1, h2⟩ := dec_cons n.toNat
    exact ⟨c, r, e, .inr ⟨by simp [digitB, inB]; omega, by omega, e.symm⟩⟩
theorem dec_all (u : Nat) : (Lib.decDigits u).all digitB = true := List.all_eq_true.2 fun c hc => by
  have := dec_digits u u (Nat.le_refl _) c hc
  simp [digitB, inB]; omega
theorem refNum_itoa {n : Int} (h : inR n = true) : refNumS (Lib.itoa n) = some n := by
  simp only [inR, decide_eq_true_eq] at h
  obtain ⟨c, r, e, hc⟩ := itoa_head n
  rw [e]
  rcases hc with ⟨h1, hn, rfl⟩ | ⟨h1, hn, hr⟩
  · have hs : signed (c :: Lib.decDigits n.natAbs) = true := by simp [signed, headB, h1]
    have hu : unS (c :: Lib.decDigits n.natAbs) = Lib.decDigits n.natAbs := by unfold unS; rw [hs]; rfl
    obtain ⟨d, q, e2, _⟩ := dec_cons n.natAbs
    unfold refNumS
    rw [hu, hs, digN_dec _ _ (Nat.le_refl _), if_neg, if_pos rfl]
    · congr 1; omega
    · rintro (h | h | h)
      · rw [e2] at h; cases h
      · exact h (dec_all _)
      · omega
  · have hs : signed (c :: r) = false := by simp [signed, headB]; simp [digitB, inB] at h1; omega
    have hu : unS (c :: r) = c :: r := by unfold unS; rw [hs]; rfl
    unfold refNumS
    rw [hu, hs, hr, digN_dec _ _ (Nat.le_refl _), if_neg, if_neg (by simp)]
    · congr 1; omega
    · rintro (h | h | h)
      · rw [← hr] at h; cases h
      · exact h (dec_all _)
      · omega
theorem number_itoa {n : Int} (h : inR n = true) : numberS (Lib.itoa n) = some ⟨1, n, []⟩ := by
  rw [number_ref, refNum_itoa h]; rfl
theorem parse_sym {s : Bs} (h : symbolS s = true) : parseS s = some ⟨2, 0, s⟩ := by
  have h0 := h
  unfold symbolS at h
  cases s with
  | nil => simp at h
  | cons c r =>
    simp only [Bool.and_eq_true] at h
    have hc := h.1.2
    have h1 : c.toNat ≠ 34 ∧ ¬ (c.toNat = 45 ∨ digitB c = true) := by
      simp only [smallB, inB_iff] at hc
      exact ⟨by omega, by simp [digitB, inB]; omega⟩
    have hg : guessS (c :: r) = some ⟨2, 0, c :: r⟩ := by unfold guessS; dsimp only; rw [if_neg h1.1, if_neg h1.2]
    have hck : checkS ⟨2, 0, c :: r⟩ = true := by simp [checkS, h0]
    have ht : textV ⟨2, 0, c :: r⟩ = c :: r := by unfold textV; rw [hck, if_pos rfl, if_neg (by simp), if_pos rfl]
    rw [parseS, hg]; dsimp only
    rw [hck, ht]; simp
theorem check_cases {v : Val} (h : checkS v = true) : (v.k = 1 ∧ inR v.n = true ∧ v.s = [] ∧ textV v = Lib.itoa v.n) ∨ (v.k = 2 ∧ v.n = 0 ∧ symbolS v.s = true ∧ textV v = v.s) ∨ (v.k = 3 ∧ v.n = 0 ∧ plainS v.s = true ∧ textV v = quotedS v.s) := by
  have ht : textV v = if v.k = 1 then Lib.itoa v.n else if v.k = 2 then v.s else quotedS v.s := by unfold textV; rw [if_pos h]
  unfold checkS at h
  by_cases h1 : v.k = 1
  · rw [if_pos h1] at h ht
    simp at h
    exact .inl ⟨h1, h.1, h.2, ht⟩
  · rw [if_neg h1] at h ht
    by_cases h2 : v.k = 2
    · rw [if_pos h2] at h ht
      simp at h
      exact .inr (.inl ⟨h2, h.1, h.2, ht⟩)
    · rw [if_neg h2] at h ht
      by_cases h3 : v.k = 3
      · rw [if_pos h3] at h
        simp at h
        exact .inr (.inr ⟨h3, h.1, h.2, ht⟩)
      · rw [if_neg h3] at h; cases h
theorem parse_some {t : Bs} {v : Val} (h : parseS t = some v) : checkS v = true ∧ textV v = t := by
  unfold parseS at h
  split at h
  · split at h
    · rename_i h1
      simp only [Bool.and_eq_true, decide_eq_true_eq] at h1
      cases h; exact h1
    · cases h
  · cases h
/-! the kinds of signs -/
theorem tw_all {p : UInt8 → Bool} : ∀ {l : Bs}, l.all p = true → l.takeWhile p = l
  | [], _ => rfl
  | c :: l, h => by
    rw [List.all_cons, Bool.and_eq_true] at h
    rw [List.takeWhile_cons, if_pos h.1, tw_all h.2]
theorem symbol_word (s : Bs) : symbolS s = refWordS false s := by
  unfold symbolS refWordS
  cases s <;> simp [headB]
theorem tk_word {s : Bs} {large : Bool} (h : refWordS large s = true) : Tk (if large then 2 else 1, s) := by
  unfold refWordS at h
  simp only [Bool.and_eq_true, decide_eq_true_eq] at h
  obtain ⟨⟨⟨h1, h2⟩, h3⟩, h4⟩ := h
  cases s with
  | nil => simp at h1
  | cons c r =>
    simp only [headB] at h3
    have ht : (c :: r).takeWhile letterB = c :: r := tw_all h4
    unfold Tk
    dsimp only
    have hc : smallB c ∨ largeB c := by cases large <;> simp at h3 <;> simp [h3]
    rw [nextS, if_pos hc, ht]
    have e : (if largeB c = true then (2 : Int) else 1) = if large = true then 2 else 1 := by
      cases large with
      | false => simp at h3; simp [small_not_large h3]
      | true => simp at h3; simp [h3]
    rw [e, decide_eq_true h2]
theorem textGo_quoteB {c : UInt8} (h : plainB c = true) (i : Nat) (r : Bs) (hr : r ≠ []) : textGo i (quoteB c ++ r) = textGo (i + (quoteB c).length) r := by
  by_cases he : escB c = true
  · rw [esc_quote he]
    show textGo i (92 :: c :: r) = _
    rw [textGo, if_neg (by decide), if_pos ⟨by decide, he⟩]; rfl
  · have h1 : c.toNat ≠ 34 ∧ c.toNat ≠ 92 := by simp [escB] at he; omega
    rw [no_quote h1.1 h1.2]
    show textGo i (c :: r) = _
    cases r with
    | nil => exact absurd rfl hr
    | cons d r => rw [textGo, if_neg h1.1, if_neg (fun h => h1.2 h.1), if_neg (by rintro (h2 | h2); exact h1.2 h2; exact h2 h)]; rfl
theorem textGo_flat : ∀ (s : Bs), s.all plainB = true → ∀ i : Nat, textGo i (s.flatMap quoteB ++ [34]) = i + (s.flatMap quoteB).length + 1
  | [], _, i => by simp [textGo]
  | c :: s, h, i => by
    rw [List.all_cons, Bool.and_eq_true] at h
    rw [List.flatMap_cons, List.append_assoc, textGo_quoteB h.1 i _ (by simp), textGo_flat s h.2, List.length_append]; omega
theorem tk_quoted {s : Bs} (h : plainS s = true) : Tk (4, quotedS s) := by
  have hp := parse_quoted h
  unfold plainS at h
  rw [Bool.and_eq_true, decide_eq_true_eq] at h
  unfold Tk
  have e : quotedS s = 34 :: (s.flatMap quoteB ++ [34]) := rfl
  have ht : textS (quotedS s) = (quotedS s).length := by
    rw [e]
    show textGo 1 (s.flatMap quoteB ++ [34]) = _
    rw [textGo_flat s h.1]; simp; omega
  dsimp only
  have h1 : ¬ (smallB (34 : UInt8) = true ∨ largeB (34 : UInt8) = true) := by decide
  have h2 : ¬ (digitB (34 : UInt8) = true ∨ ((34 : UInt8).toNat = 45 ∧ headB digitB (s.flatMap quoteB ++ [34]) = true)) := by rintro (h | ⟨h, _⟩) <;> exact absurd h (by decide)
  have : nextS (quotedS s) = (4, textS (quotedS s), decide (0 < textS (quotedS s)) && (parseS ((quotedS s).take (textS (quotedS s)))).isSome) := by
    rw [e, nextS, if_neg h1, if_neg h2, if_pos (by decide)]
  rw [this, ht, List.take_length, hp]
  simp [e]
theorem tk_num {s : Bs} (h : (refNumS s).isSome = true) : Tk (3, s) := by
  have hn : (numberS s).isSome = true := by rw [number_ref]; simpa using h
  unfold refNumS at h
  split at h
  · cases h
  rename_i h1
  simp only [not_or] at h1
  obtain ⟨h1, h2, h3⟩ := h1
  have h2 : (unS s).all digitB = true := by simpa using h2
  unfold Tk
  dsimp only
  cases s with
  | nil => exact absurd rfl h1
  | cons c r =>
    have key : ¬ (smallB c = true ∨ largeB c = true) ∧ (digitB c = true ∨ (c.toNat = 45 ∧ headB digitB r = true)) ∧ r.takeWhile digitB = r := by
      by_cases hs : signed (c :: r) = true
      · have hu : unS (c :: r) = r := by unfold unS; rw [if_pos hs]; rfl
        rw [hu] at h1 h2
        have hc : c.toNat = 45 := by simpa [signed, headB] using hs
        refine ⟨by simp [smallB, largeB, inB]; omega, .inr ⟨hc, ?_⟩, tw_all h2⟩
        cases r with
        | nil => exact absurd rfl h1
        | cons d r => rw [List.all_cons, Bool.and_eq_true] at h2; exact h2.1
      · have hu : unS (c :: r) = c :: r := by unfold unS; rw [if_neg hs]
        rw [hu, List.all_cons, Bool.and_eq_true] at h2
        have hc := h2.1
        refine ⟨?_, .inl hc, tw_all h2.2⟩
        simp [digitB, smallB, largeB, inB] at hc ⊢; omega
    obtain ⟨k1, k2, k3⟩ := key
    have e1 : (c :: r).take (1 + r.length) = c :: r := by rw [Nat.add_comm, List.take_succ_cons, List.take_length]
    rw [nextS, if_neg k1, if_pos k2, k3, e1, hn, List.length_cons, Nat.add_comm]
/-- a string's sign: what it parses to is what the page says -/
theorem quoted_ref {t : Bs} : ((refQuotedS t).2 = true ↔ ∃ v, parseS t = some v ∧ v.k = 3) ∧ ∀ v, parseS t = some v → v.k = 3 → v = ⟨3, 0, (refQuotedS t).1⟩ := by
  have back : ∀ v, parseS t = some v → v.k = 3 → (refQuotedS t).2 = true ∧ v = ⟨3, 0, (refQuotedS t).1⟩ := fun v hv hk => by
    obtain ⟨h1, h2⟩ := parse_some hv
    rcases check_cases h1 with ⟨h, _⟩ | ⟨h, _⟩ | ⟨_, h4, h5, h6⟩
    · omega
    · omega
    · obtain ⟨k, n, s⟩ := v
      dsimp only at hk h4 h5 h6
      subst hk; subst h4
      rw [h6] at h2
      subst h2
      have hp := h5
      unfold plainS at hp
      rw [Bool.and_eq_true, decide_eq_true_eq] at hp
      have hr := reads (s.flatMap quoteB ++ [34]) 1
      have hg := textGo_flat s hp.1 1
      obtain ⟨_, m, a2, a3, a4, a5⟩ := hr.1 ((s.flatMap quoteB ++ [34]).length) (by rw [hg]; simp; omega) (by simp)
      rw [List.take_length] at a2 a3
      have hm : s.flatMap quoteB = m := (List.append_inj' a2 rfl).1
      have hb := bareM_flat s hp.1
      rw [hm] at hb
      have a3 := a3 []
      rw [hb, List.nil_append] at a3
      have e : refQuotedS (quotedS s) = (s, true) := by
        have e1 : refQuotedS (quotedS s) = refQGo [] (s.flatMap quoteB ++ [34]) := by
          unfold quotedS refQuotedS
          rw [List.cons_append]
          cases hq : s.flatMap quoteB ++ [34] with
          | nil => simp at hq
          | cons d q => dsimp only; rw [if_pos (by decide)]
        rw [e1, a3]; simp [hp.2]
      rw [e]; exact ⟨rfl, rfl⟩
  refine ⟨⟨fun h => ?_, fun ⟨v, h1, h2⟩ => (back v h1 h2).1⟩, fun v h1 h2 => (back v h1 h2).2⟩
  match t with
  | [] => simp [refQuotedS] at h
  | [c] => simp [refQuotedS] at h
  | c :: d :: r =>
    by_cases hc : c.toNat = 34
    · have hc2 : c = 34 := UInt8.toNat_inj.1 hc
      have e1 : refQuotedS (c :: d :: r) = refQGo [] (d :: r) := by unfold refQuotedS; dsimp only; rw [if_pos hc]
      rw [e1] at h
      -- the program's reading reaches to the end
      have hr := reads (d :: r) 1
      have hpos : ∀ (n : Nat) (s out : Bs) (i : Nat), s.length ≤ n → (refQGo out s).2 = true → refText i s = i + s.length := by
        intro n
        induction n with
        | zero =>
          intro s out i hn h
          have := List.eq_nil_of_length_eq_zero (Nat.le_zero.1 hn)
          subst this; simp [refQGo] at h
        | succ n ih =>
        intro s out i hn h
        match s with
        | [] => simp [refQGo] at h
        | c :: r =>
          rw [List.length_cons] at hn
          by_cases h34 : c.toNat = 34
          · rw [refQ_quote h34] at h
            simp at h
            rw [refText_quote h34, h.1]; rfl
          · by_cases h92 : c.toNat = 92
            · match r with
              | [] => rw [refQ_bad h34 (.inl ⟨h92, rfl⟩)] at h; cases h
              | d :: r' =>
                by_cases hd : escB d = true
                · rw [refQ_esc h92 hd] at h
                  rw [refText_esc h92, ih r' _ _ (by simp at hn; omega) h]; simp; omega
                · rw [refQ_bad h34 (.inl ⟨h92, by simpa [headB] using hd⟩)] at h; cases h
            · by_cases hpl : plainB c = true
              · rw [refQ_step h34 h92 hpl] at h
                rw [refText_step h34 h92, ih r _ _ (by omega) h]; simp; omega
              · rw [refQ_bad h34 (.inr ⟨h92, by simpa using hpl⟩)] at h; cases h
      have hl := hpos _ (d :: r) [] 1 (Nat.le_refl _) h
      rcases textGo_gt (d :: r) 1 with h0 | h0
      · have := hr.2 h0 (d :: r).length hl (by simp) []
        rw [List.take_length, h] at this; cases this
      · obtain ⟨n, hn⟩ : ∃ n, textGo 1 (d :: r) = 1 + n := ⟨textGo 1 (d :: r) - 1, by omega⟩
        obtain ⟨b1, m, b2, b3, b4, b5⟩ := hr.1 n hn (by omega)
        have hnl : n = (d :: r).length := by omega
        rw [hnl, List.take_length] at b2 b3
        rw [b3] at h
        have h := of_decide_eq_true h
        rw [List.nil_append] at h
        have hps := parse_str b4 b5
        rw [← b2, ← hc2] at hps
        have : (parseS (c :: d :: r)).isSome = true := by rw [hps]; simpa using h
        obtain ⟨v, hv⟩ := Option.isSome_iff_exists.1 this
        refine ⟨v, hv, ?_⟩
        have hv' := hv
        unfold parseS at hv'
        have hg : guessS (c :: d :: r) = some ⟨3, 0, bareS (c :: d :: r)⟩ := by unfold guessS; dsimp only; rw [if_pos hc]
        rw [hg] at hv'
        dsimp only at hv'
        split at hv'
        · cases hv'; rfl
        · cases hv'
    · rw [refQuotedS, if_neg hc] at h; cases h
end Go.PV
namespace Go.PV
open Go
/-! atoms, expressions; their readers -/
instance : DecidableEq Val := fun a b => decidable_of_iff (a.k = b.k ∧ a.n = b.n ∧ a.s = b.s) (by cases a; cases b; simp)
structure Trm where
  v : Bs
  x : Val
abbrev Trm.c (t : Trm) : List V := [.str t.v, .int .i64 t.x.k, .int .i64 t.x.n, .str t.x.s]
structure Atm where
  n : Bs
  a : List Trm
abbrev trmV (l : List Trm) : List (List V) := l.map Trm.c
abbrev Atm.c (a : Atm) : List V := [.str a.n, .sl 4 (trmV a.a)]
structure Stp where
  k : Int
  v : Bs
  x : Val
abbrev Stp.c (o : Stp) : List V := [.int .i64 o.k, .str o.v, .int .i64 o.x.k, .int .i64 o.x.n, .str o.x.s]
abbrev stpV (l : List Stp) : List (List V) := l.map Stp.c
instance : DecidableEq Trm := fun a b => decidable_of_iff (a.v = b.v ∧ a.x = b.x) (by cases a; cases b; simp)
instance : DecidableEq Stp := fun a b => decidable_of_iff (a.k = b.k ∧ a.v = b.v ∧ a.x = b.x) (by cases a; cases b; simp)
instance : DecidableEq Atm := fun a b => decidable_of_iff (a.n = b.n ∧ a.a = b.a) (by cases a; cases b; simp)
def zeroT : Trm := ⟨[], zeroV⟩
/-- words that are no names -/
def wordsL : List Bs := [[102, 97, 99, 116], [114, 117, 108, 101], [112, 97, 116, 116, 101, 114, 110], [110, 111, 116], [97, 110, 100], [111, 114], [98, 101, 102, 111, 114, 101], [111, 110, 99, 101], [97, 108, 119, 97, 121, 115], [115, 105, 110, 99, 101], [100, 114, 111, 112]]
def nameS (s : Bs) : Bool := refWordS false s && !decide (s ∈ wordsL)
def varS (s : Bs) : Bool := refWordS true s
def termOk (t : Trm) : Bool := if t.v = [] then checkS t.x else varS t.v && decide (t.x = zeroV)
def atomOk (a : Atm) : Bool := nameS a.n && decide (a.a.length ≤ 5) && a.a.all termOk
/-- the program's reader -/
structure Rd where
  l : List Tok
  i : Nat
  bad : Bool
  over : Bool
  wrong : Bool
namespace Rd
def isOpen (r : Rd) : Bool := !r.bad && !r.over
def cur (r : Rd) : Option KT := (r.l[r.i]?).map kt
def step (r : Rd) : Rd := { r with i := r.i + 1 }
def fail (r : Rd) : Rd := { r with bad := true }
def see (r : Rd) (k : Int) (t : Bs) : Bool := r.isOpen && decide (r.cur = some (k, t))
def word (r : Rd) (k : Int) (t : Bs) : Rd := if r.see k t then r.step else r
def want (r : Rd) (k : Int) (t : Bs) : Rd := if r.see k t then r.step else if r.isOpen then r.fail else r
def name (r : Rd) : Bs × Rd :=
  if r.isOpen then (match r.cur with
    | some x => if x.1 = 1 ∧ nameS x.2 = true then (x.2, r.step) else ([], r.fail)
    | none => ([], r.fail)) else ([], r)
def num (r : Rd) : Int × Rd :=
  if r.isOpen then (match r.cur with
    | some x => (match (if x.1 = 3 then numberS x.2 else none) with
      | some v => (v.n, r.step)
      | none => (0, r.fail))
    | none => (0, r.fail)) else (0, r)
end Rd
abbrev Rd.ob (r : Rd) : Ob := .box 0 [.sl 4 (toksV r.l), .int .i64 r.i, .bool r.bad, .bool r.over, .bool r.wrong]
def valueS (x : KT) : Option Trm :=
  if x.1 = 2 then (if varS x.2 then some ⟨x.2, zeroV⟩ else none)
  else if x.1 = 3 then (numberS x.2).map fun v => ⟨[], v⟩
  else match parseS x.2 with
    | some v => if (x.1 = 1 ∧ v.k = 2) ∨ (x.1 = 4 ∧ v.k = 3) then some ⟨[], v⟩ else none
    | none => none
def valueT (x : KT) : Trm := if x.1 = 2 then ⟨x.2, zeroV⟩ else if x.1 = 3 then ⟨[], (numberS x.2).getD zeroV⟩ else ⟨[], (parseS x.2).getD zeroV⟩
theorem valueS_T {x : KT} {t : Trm} (h : valueS x = some t) : valueT x = t := by
  unfold valueS at h; unfold valueT
  split at h
  · rename_i h1
    split at h
    · cases h; rw [if_pos h1]
    · cases h
  · rename_i h1
    rw [if_neg h1]
    split at h
    · rename_i h2
      rw [if_pos h2]
      cases hn : numberS x.2 with
      | none => rw [hn] at h; cases h
      | some v => rw [hn] at h; cases h; rfl
    · rename_i h2
      rw [if_neg h2]
      split at h
      · rename_i v hv
        split at h
        · cases h; rw [hv]; rfl
        · cases h
      · cases h
namespace Rd
def term (r : Rd) : Trm × Rd :=
  if r.isOpen then (match r.cur.bind valueS with
    | some t => (t, r.step)
    | none => (zeroT, r.fail)) else (zeroT, r)
/-- terms behind commas -/
def args : Nat → Rd → List Trm × Rd
  | 0, r => ([], r)
  | f + 1, r => if r.see 5 [44] then (r.step.term.1 :: (args f r.step.term.2).1, (args f r.step.term.2).2) else ([], r)
def brack (r : Rd) : List Trm × Rd :=
  let t := r.step.term
  let u := args r.l.length t.2
  (t.1 :: u.1, u.2.want 5 [41])
def atom (r : Rd) : Atm × Rd :=
  let x := r.name
  if x.2.see 5 [40] then
    let b := x.2.brack
    (⟨x.1, b.1.take 5⟩, if 5 < b.1.length then { b.2 with wrong := true } else b.2)
  else (⟨x.1, []⟩, x.2)
def reckons (r : Rd) : Int × Rd :=
  if r.see 5 [43] then (3, r.step) else if r.see 5 [45] then (4, r.step) else if r.see 5 [42] then (5, r.step) else (0, if r.isOpen then r.fail else r)
def part : Nat → Rd → List Stp × Rd
  | 0, r => if r.see 5 [40] then ([], { r.step with over := true })
    else let t := r.term; ([⟨if t.1.v = [] then 2 else 1, t.1.v, t.1.x⟩], t.2)
  | n + 1, r => if r.see 5 [40] then
      let a := part n r.step
      let b := a.2.reckons
      if b.2.isOpen then
        let c := part n b.2
        (a.1 ++ c.1 ++ [⟨b.1, [], zeroV⟩], c.2.want 5 [41])
      else ([], b.2)
    else let t := r.term; ([⟨if t.1.v = [] then 2 else 1, t.1.v, t.1.x⟩], t.2)
def expr (r : Rd) : List Stp × Rd :=
  if r.isOpen then let x := r.part 15; (x.1, if 15 < x.1.length then { x.2 with wrong := true } else x.2) else ([], r)
def endI (r : Rd) (at_ : Nat) : Nat := if r.bad then min r.i r.l.length else if r.over || r.wrong then at_ else r.i
def endE (r : Rd) : Int := if r.bad || r.over || r.wrong then 7 else 0
theorem see_open {r : Rd} {k : Int} {t : Bs} (h : r.see k t = true) : r.isOpen = true ∧ r.cur = some (k, t) := by
  unfold see at h; simpa using h
theorem cur_lt {r : Rd} {x : KT} (h : r.cur = some x) : r.i < r.l.length := by
  unfold cur at h
  rw [Option.map_eq_some_iff] at h
  obtain ⟨t, h, _⟩ := h
  exact (List.getElem?_eq_some_iff.1 h).1
end Rd
/-- a place that reading starts from -/
abbrev rd0 (l : List Tok) (i : Nat) : Rd := ⟨l, i, false, false, false⟩
def zeroA : Atm := ⟨[], []⟩
/-! texts -/
def termT (t : Trm) : Bs := if t.v = [] then textV t.x else t.v
def termK (t : Trm) : KT := if t.v = [] then (if t.x.k = 1 then 3 else if t.x.k = 2 then 1 else 4, textV t.x) else (2, t.v)
def tailK : List Trm → List (Bs × KT)
  | [] => [([], (5, [41]))]
  | t :: r => ([], (5, [44])) :: ([32], termK t) :: tailK r
def argsK : List Trm → List (Bs × KT)
  | [] => []
  | t :: r => ([], (5, [40])) :: ([], termK t) :: tailK r
def atomK (b : Bs) (a : Atm) : List (Bs × KT) := (b, (1, a.n)) :: argsK a.a
def atomT (a : Atm) : Bs := weaveK (atomK [] a)
theorem termK_T (t : Trm) : (termK t).2 = termT t := by unfold termK termT; split <;> rfl
end Go.PV
namespace Go.PV
open Go Go.Proofs
set_option maxRecDepth 100000
instance : DecidableEq Tok := fun a b => decidable_of_iff (a.k = b.k ∧ a.t = b.t ∧ a.p.1 = b.p.1 ∧ a.p.2 = b.p.2) (by
  obtain ⟨a1, a2, a3, a4⟩ := a; obtain ⟨b1, b2, b3, b4⟩ := b; simp)
theorem und_int : Tryz.prog.underlying 2 = some (.int .i64) := Tryz.underlying2
theorem und_str : Tryz.prog.underlying 9 = some .string := Tryz.underlying9
theorem fsVal (v w : Val) (d : Nat) : EqFs Tryz.prog (d + 1) (Tryz.prog.fieldsOf 129).toList v.c w.c (decide (v = w)) := by
  have e : decide (v = w) = (decide (v.k = w.k) && (decide (v.n = w.n) && (decide (v.s = w.s) && true))) := by
    rw [Bool.eq_iff_iff]; cases v; cases w; simp
  rw [e]
  exact .int (f := (Tryz.prog.fieldsOf 129)[0]!) (by decide +kernel) und_int rfl rfl (.int (by decide +kernel) und_int rfl rfl (.str (by decide +kernel) und_str rfl rfl .nil))
theorem eqVal (v w : Val) : EqV Tryz.prog .eql 129 v.c w.c (decide (v = w)) ∧ EqV Tryz.prog .neq 129 v.c w.c (!decide (v = w)) :=
  eqV_of rfl rfl (by kernel_rfl) (by kernel_rfl) (by kernel_rfl) (fsVal v w 9998)
end Go.PV
namespace Go.PV
open Go
/-! atoms: what is written is read; what is read is right -/
theorem tk_term {t : Trm} (h : termOk t = true) : Tk (termK t) := by
  unfold termOk at h
  unfold termK
  by_cases hv : t.v = []
  · rw [if_pos hv] at h ⊢
    rcases check_cases h with ⟨h1, h2, _, h4⟩ | ⟨h1, _, h3, h4⟩ | ⟨h1, _, h3, h4⟩ <;> rw [h4]
    · rw [if_pos h1]; exact tk_num (by rw [refNum_itoa h2]; rfl)
    · rw [if_neg (by omega), if_pos h1]; rw [symbol_word] at h3; exact tk_word (large := false) h3
    · rw [if_neg (by omega), if_neg (by omega)]; exact tk_quoted h3
  · rw [if_neg hv] at h ⊢
    rw [Bool.and_eq_true] at h
    exact tk_word (large := true) h.1
theorem value_term {t : Trm} (h : termOk t = true) : valueS (termK t) = some t := by
  unfold termOk at h
  obtain ⟨v, k, n, s⟩ := t
  unfold termK
  dsimp only at h ⊢
  by_cases hv : v = []
  · subst hv
    rw [if_pos rfl] at h ⊢
    rcases check_cases h with ⟨h1, h2, h3, h4⟩ | ⟨h1, h2, h3, h4⟩ | ⟨h1, h2, h3, h4⟩ <;> rw [h4] <;> dsimp only at h1 h2 h3 h4 ⊢
    · subst h1; subst h3; simp only [if_true]
      unfold valueS; rw [if_neg (by dsimp only; omega), if_pos rfl, number_itoa h2]; rfl
    · subst h1; subst h2
      unfold valueS; rw [if_neg (by dsimp only; omega), if_neg (by dsimp only; omega), parse_sym h3]; simp
    · subst h1; subst h2
      unfold valueS; rw [if_neg (by dsimp only; omega), if_neg (by dsimp only; omega), parse_quoted h3]; simp
  · rw [if_neg hv] at h ⊢
    rw [Bool.and_eq_true, decide_eq_true_eq] at h
    unfold valueS; rw [if_pos rfl, if_pos h.1, ← h.2]
theorem num_check {s : Bs} {v : Val} (h : numberS s = some v) : checkS v = true ∧ v.k = 1 := by
  rw [number_ref, Option.map_eq_some_iff] at h
  obtain ⟨n, h, rfl⟩ := h
  unfold refNumS at h
  split at h
  · cases h
  · rename_i h1
    have : inR n = true := by
      simp only [Option.some.injEq] at h
      simp only [inR, decide_eq_true_eq]
      have : ¬ 4611686018427387904 < digN (unS s) := fun h => h1 (.inr (.inr h))
      split at h <;> omega
    exact ⟨by simp [checkS, this], rfl⟩
theorem varS_ne {s : Bs} (h : varS s = true) : s ≠ [] := by
  intro e; subst e; simp [varS, refWordS] at h
theorem value_ok {x : KT} {t : Trm} (h : valueS x = some t) : termOk t = true := by
  unfold valueS at h
  split at h
  · split at h
    · rename_i h1
      cases h
      unfold termOk
      rw [if_neg (varS_ne h1)]
      simp [h1]
    · cases h
  · split at h
    · rw [Option.map_eq_some_iff] at h
      obtain ⟨v, h, rfl⟩ := h
      unfold termOk; rw [if_pos rfl]; exact (num_check h).1
    · split at h
      · rename_i v hv
        split at h
        · cases h
          unfold termOk; rw [if_pos rfl]; exact (parse_some hv).1
        · cases h
      · cases h
/-! what may stand behind -/
def stopC (c : UInt8) : Bool := !letterB c && decide (c.toNat ≠ 61 ∧ c.toNat ≠ 62)
def stopH : Bs → Bool
  | [] => true
  | c :: _ => stopC c
theorem okEnd_stop {t : KT} {r : Bs} (h : stopH r = true) : okEnd t r = true := by
  cases r with
  | nil => rfl
  | cons c r =>
    simp only [stopH, stopC, Bool.and_eq_true, Bool.not_eq_true', decide_eq_true_eq] at h
    have hd : digitB c = false := by have := h.1; simp [letterB] at this; exact this.1.2
    rw [okEnd]
    split
    · simp [h.1]
    · split
      · simp [hd]
      · split
        · rfl
        · simp [h.2, hd]
theorem okEnd_sign {x : UInt8} (hx : x ≠ 45) {c : UInt8} {r : Bs} (h : c.toNat ≠ 61 ∧ c.toNat ≠ 62) : okEnd (5, [x]) (c :: r) = true := by
  rw [okEnd, if_neg (by dsimp only; omega), if_neg (by dsimp only; omega), if_neg (by dsimp only; omega)]
  simp [h, hx]
theorem tk_head {t : KT} (h : Tk t) (h5 : t.1 ≠ 5) : ∃ c r, t.2 = c :: r ∧ c.toNat ≠ 61 ∧ c.toNat ≠ 62 := by
  obtain ⟨k, t⟩ := t
  dsimp only at h5 ⊢
  have h1 := tk_pos h
  unfold Tk at h
  dsimp only at h h1
  cases t with
  | nil => simp at h1
  | cons c r =>
    refine ⟨c, r, rfl, ?_⟩
    by_cases hc : c.toNat = 61 ∨ c.toNat = 62
    · refine absurd ?_ h5
      have e : nextS (c :: r) = (5, signS (c :: r), decide (0 < signS (c :: r))) := by
        rw [nextS, if_neg, if_neg, if_neg (by omega)]
        · simp [digitB, inB]; omega
        · simp [smallB, largeB, inB]; omega
      rw [e] at h
      exact (congrArg Prod.fst h).symm
    · omega
theorem termK_5 (t : Trm) : (termK t).1 ≠ 5 := by
  unfold termK; split
  · dsimp only; split
    · omega
    · split <;> omega
  · dsimp only; omega
theorem okEnd_head {x : UInt8} (hx : x ≠ 45) {t : KT} (h : Tk t) (h5 : t.1 ≠ 5) (r : Bs) : okEnd (5, [x]) (t.2 ++ r) = true := by
  obtain ⟨c, u, e, hc⟩ := tk_head h h5
  rw [e]; exact okEnd_sign hx hc
theorem nameS_word {s : Bs} (h : nameS s = true) : refWordS false s = true := by unfold nameS at h; rw [Bool.and_eq_true] at h; exact h.1
theorem wov_tail (tail : Bs) (ht : stopH tail = true) : ∀ l : List Trm, l.all termOk = true → WovK tail (tailK l) ∧ stopH (weaveK (tailK l) ++ tail) = true
  | [], _ => ⟨⟨rfl, rfl, okEnd_stop ht, trivial⟩, rfl⟩
  | t :: r, h => by
    rw [List.all_cons, Bool.and_eq_true] at h
    obtain ⟨h1, h2⟩ := wov_tail tail ht r h.2
    refine ⟨⟨rfl, rfl, ?_, rfl, tk_term h.1, okEnd_stop h2, h1⟩, rfl⟩
    rfl
theorem wov_args (tail : Bs) (ht : stopH tail = true) (l : List Trm) (h : l.all termOk = true) : WovK tail (argsK l) ∧ (stopH (weaveK (argsK l) ++ tail) = true) := by
  cases l with
  | nil => exact ⟨trivial, ht⟩
  | cons t r =>
    rw [List.all_cons, Bool.and_eq_true] at h
    obtain ⟨h1, h2⟩ := wov_tail tail ht r h.2
    refine ⟨⟨rfl, rfl, ?_, rfl, tk_term h.1, okEnd_stop h2, h1⟩, rfl⟩
    show okEnd (5, [40]) ([] ++ ((termK t).2 ++ weaveK (tailK r)) ++ tail) = true
    rw [List.nil_append, List.append_assoc]
    exact okEnd_head (by decide) (tk_term h.1) (termK_5 t) _
theorem wov_atom {tail b : Bs} (ht : stopH tail = true) (hb : blk b = true) {a : Atm} (h : atomOk a = true) : WovK tail (atomK b a) := by
  unfold atomOk at h
  rw [Bool.and_eq_true, Bool.and_eq_true] at h
  obtain ⟨h1, h2⟩ := wov_args tail ht a.a h.2
  exact ⟨hb, tk_word (large := false) (nameS_word h.1.1), okEnd_stop h2, h1⟩
/-! reading -/
namespace Rd
def rest (r : Rd) : List KT := (r.l.drop r.i).map kt
def adv (r : Rd) (n : Nat) : Rd := { r with i := r.i + n }
theorem cur_rest (r : Rd) : r.cur = r.rest.head? := by
  unfold cur rest
  rw [List.head?_map, List.head?_drop]
theorem rest_cons {r : Rd} {x : KT} {m : List KT} (h : r.rest = x :: m) : r.cur = some x ∧ r.step.rest = m := by
  refine ⟨by rw [cur_rest, h]; rfl, ?_⟩
  have : r.step.rest = r.rest.tail := by
    unfold rest step
    rw [← List.map_tail, List.tail_drop]
  rw [this, h]; rfl
theorem see_rest {r : Rd} (ho : r.isOpen = true) {x : KT} {m : List KT} (h : r.rest = x :: m) : r.see x.1 x.2 = true := by
  unfold see; rw [ho, (rest_cons h).1]; simp
theorem see_no {r : Rd} {x : KT} (h : r.rest.head? ≠ some x) : r.see x.1 x.2 = false := by
  unfold see; rw [cur_rest]; simp [h]
theorem name_rest {r : Rd} (ho : r.isOpen = true) {s : Bs} {m : List KT} (h : r.rest = (1, s) :: m) (hs : nameS s = true) : r.name = (s, r.step) := by
  unfold name; rw [if_pos ho, (rest_cons h).1]; simp [hs]
theorem term_rest {r : Rd} (ho : r.isOpen = true) {t : Trm} {m : List KT} (h : r.rest = termK t :: m) (ht : termOk t = true) : r.term = (t, r.step) := by
  unfold term; rw [if_pos ho, (rest_cons h).1, Option.bind_some, value_term ht]
theorem want_rest {r : Rd} (ho : r.isOpen = true) {x : KT} {m : List KT} (h : r.rest = x :: m) : r.want x.1 x.2 = r.step := by
  unfold want; rw [if_pos (see_rest ho h)]
theorem args_rest : ∀ (l : List Trm) (f : Nat) (r : Rd) (m : List KT), r.isOpen = true → l.all termOk = true → r.rest = (tailK l).map (·.2) ++ m → l.length ≤ f → (args f r).1 = l ∧ (args f r).2.want 5 [41] = r.adv (tailK l).length
  | [], f, r, m, ho, _, hr, _ => by
    have hs : r.see 5 [44] = false := see_no (x := (5, [44])) (by rw [hr]; simp [tailK])
    have e : args f r = ([], r) := by cases f <;> simp [args, hs]
    rw [e]
    exact ⟨rfl, want_rest ho (x := (5, [41])) (m := m) (by rw [hr]; rfl)⟩
  | t :: l, f, r, m, ho, hk, hr, hf => by
    obtain ⟨f, rfl⟩ : ∃ f', f = f' + 1 := ⟨f - 1, by simp at hf; omega⟩
    rw [List.all_cons, Bool.and_eq_true] at hk
    have hr : r.rest = (5, [44]) :: termK t :: ((tailK l).map (·.2) ++ m) := hr
    have h1 := rest_cons hr
    have h2 := rest_cons h1.2
    have ht := term_rest (r := r.step) ho h1.2 hk.1
    obtain ⟨i1, i2⟩ := args_rest l f r.step.step m ho hk.2 h2.2 (by simp at hf; omega)
    rw [args, if_pos (see_rest ho hr), ht]
    dsimp only
    rw [i1, i2]
    refine ⟨rfl, ?_⟩
    simp only [adv, step, tailK, List.length_cons]
    congr 1; omega
theorem brack_rest {r : Rd} {t : Trm} {l : List Trm} {m : List KT} (ho : r.isOpen = true) (hk : (t :: l).all termOk = true) (hr : r.rest = (argsK (t :: l)).map (·.2) ++ m) : r.brack = (t :: l, r.adv (argsK (t :: l)).length) := by
  rw [List.all_cons, Bool.and_eq_true] at hk
  have hr : r.rest = (5, [40]) :: termK t :: ((tailK l).map (·.2) ++ m) := hr
  have h1 := rest_cons hr
  have h2 := rest_cons h1.2
  have ht := term_rest (r := r.step) ho h1.2 hk.1
  have hlen : ∀ l : List Trm, l.length ≤ (tailK l).length := fun l => by
    induction l with
    | nil => simp
    | cons u l ih => simp only [tailK, List.length_cons]; omega
  have hll : l.length ≤ r.l.length := by
    have e := congrArg List.length hr
    have := hlen l
    simp only [rest, List.length_map, List.length_drop, List.length_cons, List.length_append] at e
    omega
  obtain ⟨i1, i2⟩ := args_rest l r.l.length r.step.step m ho hk.2 h2.2 hll
  unfold brack
  rw [ht]
  dsimp only
  rw [i1, i2]
  simp only [adv, step, argsK, List.length_cons]
  congr 2; omega
/-- an atom's signs are read as it -/
theorem atom_rest {r : Rd} {a : Atm} {b : Bs} {m : List KT} (ho : r.isOpen = true) (hk : atomOk a = true) (hr : r.rest = (atomK b a).map (·.2) ++ m) (hm : a.a = [] → m.head? ≠ some (5, [40])) : r.atom = (a, r.adv (atomK b a).length) := by
  unfold atomOk at hk
  rw [Bool.and_eq_true, Bool.and_eq_true, decide_eq_true_eq] at hk
  obtain ⟨⟨h1, h2⟩, h3⟩ := hk
  have hr : r.rest = (1, a.n) :: ((argsK a.a).map (·.2) ++ m) := hr
  have hc := rest_cons hr
  have hn := name_rest ho hr h1
  obtain ⟨n, l⟩ := a
  dsimp only at *
  unfold atom
  rw [hn]
  dsimp only
  cases l with
  | nil =>
    have hs : r.step.see 5 [40] = false := see_no (x := (5, [40])) (by rw [hc.2]; exact hm rfl)
    rw [hs, if_neg (by simp)]
    rfl
  | cons t l =>
    have hs : r.step.see 5 [40] = true := see_rest (r := r.step) (x := (5, [40])) (m := termK t :: ((tailK l).map (·.2) ++ m)) ho hc.2
    rw [if_pos hs, brack_rest (r := r.step) ho h3 hc.2]
    dsimp only
    rw [List.take_of_length_le h2, if_neg (by omega)]
    simp only [adv, step, atomK, List.length_cons]
    congr 2; omega
/-! what is read is right -/
theorem term_open {r : Rd} (h : r.term.2.isOpen = true) : r.isOpen = true ∧ termOk r.term.1 = true ∧ r.term.2 = r.step ∧ r.i < r.l.length := by
  unfold term at *
  split at h
  · rename_i ho
    rw [if_pos ho]
    split at h
    · rename_i t ht
      rw [Option.bind_eq_some_iff] at ht
      obtain ⟨x, h1, h2⟩ := ht
      exact ⟨ho, value_ok h2, rfl, cur_lt h1⟩
    · simp [fail, isOpen] at h
  · rename_i ho; exact absurd h ho
theorem name_open {r : Rd} (h : r.name.2.isOpen = true) : r.isOpen = true ∧ nameS r.name.1 = true ∧ r.name.2 = r.step ∧ r.i < r.l.length := by
  unfold name at *
  split at h
  · rename_i ho
    rw [if_pos ho]
    split at h
    · rename_i x hx
      split at h
      · rename_i hc
        rw [if_pos hc]
        exact ⟨ho, hc.2, rfl, cur_lt hx⟩
      · simp [fail, isOpen] at h
    · simp [fail, isOpen] at h
  · rename_i ho; exact absurd h ho
theorem want_open {r : Rd} {k : Int} {t : Bs} (h : (r.want k t).isOpen = true) : r.isOpen = true ∧ r.want k t = r.step ∧ r.i < r.l.length := by
  unfold want at *
  split at h
  · rename_i hs
    rw [if_pos hs]
    exact ⟨(see_open hs).1, rfl, cur_lt (see_open hs).2⟩
  · split at h
    · simp [fail, isOpen] at h
    · rename_i ho; exact absurd h ho
theorem args_open : ∀ (f : Nat) (r : Rd), (args f r).2.isOpen = true → r.isOpen = true ∧ (args f r).1.all termOk = true ∧ (args f r).2.l = r.l ∧ r.i ≤ (args f r).2.i ∧ (args f r).2.wrong = r.wrong
  | 0, r, h => ⟨h, rfl, rfl, Nat.le_refl _, rfl⟩
  | f + 1, r, h => by
    rw [args] at *
    split at h
    · rename_i hs
      rw [if_pos hs]
      dsimp only at h ⊢
      obtain ⟨h1, h2, h3, h4, h5⟩ := args_open f _ h
      obtain ⟨k1, k2, k3, k4⟩ := term_open h1
      rw [List.all_cons, k2, h2, h3, h5, k3]
      rw [k3] at h4
      have h4' : r.i + 1 + 1 ≤ (args f r.step.step).2.i := h4
      exact ⟨(see_open hs).1, rfl, rfl, by omega, rfl⟩
    · rename_i hs
      rw [if_neg hs]
      exact ⟨h, rfl, rfl, Nat.le_refl _, rfl⟩
theorem brack_open {r : Rd} (h : r.brack.2.isOpen = true) : r.brack.1.all termOk = true ∧ r.brack.2.l = r.l ∧ r.i < r.brack.2.i ∧ r.brack.2.i ≤ r.l.length ∧ r.brack.2.wrong = r.wrong := by
  unfold brack at *
  dsimp only at h ⊢
  obtain ⟨h1, h2, h3⟩ := want_open h
  obtain ⟨k1, k2, k3, k4, k5⟩ := args_open _ _ h1
  obtain ⟨j1, j2, j3, j4⟩ := term_open k1
  rw [List.all_cons, j2, k2, h2]
  rw [k3, j3] at h3
  rw [j3] at k3 k4 k5
  simp only [step] at *
  rw [j3]
  exact ⟨rfl, k3, by omega, by omega, k5⟩
theorem atom_open {r : Rd} (h : r.atom.2.isOpen = true) : (r.atom.2.wrong = r.wrong → r.wrong = false → atomOk r.atom.1 = true) ∧ r.atom.2.l = r.l ∧ r.i < r.atom.2.i ∧ r.atom.2.i ≤ r.l.length := by
  unfold atom at *
  dsimp only at h ⊢
  split at h
  · rename_i hs
    rw [if_pos hs]
    dsimp only at h ⊢
    have hb : r.name.2.brack.2.isOpen = true := by
      split at h
      · exact h
      · exact h
    obtain ⟨k1, k2, k3, k4, k5⟩ := brack_open hb
    obtain ⟨j1, j2, j3, j4⟩ := name_open (see_open hs).1
    rw [j3] at k1 k2 k3 k4 k5 ⊢
    have k3 : r.i + 1 < r.step.brack.2.i := k3
    have k4 : r.step.brack.2.i ≤ r.l.length := k4
    refine ⟨fun hw h0 => ?_, ?_, ?_, ?_⟩
    · have hl : ¬ 5 < r.step.brack.1.length := fun hl => by rw [if_pos hl] at hw; dsimp only at hw; rw [← hw] at h0; cases h0
      unfold atomOk
      dsimp only
      rw [j2, List.take_of_length_le (by omega), k1]
      simp; omega
    · split <;> exact k2
    · split <;> exact (by first | exact (by omega : _) | (show r.i < r.step.brack.2.i; omega))
    · split <;> exact k4
  · rename_i hs
    rw [if_neg hs]
    dsimp only at h ⊢
    obtain ⟨j1, j2, j3, j4⟩ := name_open h
    rw [j3]
    refine ⟨fun _ _ => ?_, rfl, by simp [step], by simp [step]; omega⟩
    unfold atomOk; simp [j2]
end Rd
namespace Rd
theorem term_l (r : Rd) : r.term.2.l = r.l ∧ r.i ≤ r.term.2.i ∧ r.term.2.i ≤ r.i + 1 := by
  unfold term
  split
  · split
    · exact ⟨rfl, Nat.le_succ _, Nat.le_refl _⟩
    · exact ⟨rfl, Nat.le_refl _, Nat.le_succ _⟩
  · exact ⟨rfl, Nat.le_refl _, Nat.le_succ _⟩
theorem name_l (r : Rd) : r.name.2.l = r.l ∧ r.i ≤ r.name.2.i := by
  unfold name
  split
  · split
    · split
      · exact ⟨rfl, Nat.le_succ _⟩
      · exact ⟨rfl, Nat.le_refl _⟩
    · exact ⟨rfl, Nat.le_refl _⟩
  · exact ⟨rfl, Nat.le_refl _⟩
theorem want_l (r : Rd) (k : Int) (t : Bs) : (r.want k t).l = r.l ∧ r.i ≤ (r.want k t).i := by
  unfold want
  split
  · exact ⟨rfl, Nat.le_succ _⟩
  · split
    · exact ⟨rfl, Nat.le_refl _⟩
    · exact ⟨rfl, Nat.le_refl _⟩
theorem atom_no {r : Rd} (h : r.name.2.see 5 [40] = false) : r.atom = (⟨r.name.1, []⟩, r.name.2) := by
  unfold atom; dsimp only; rw [h]; rfl
theorem atom_yes {r : Rd} (h : r.name.2.see 5 [40] = true) : r.atom = (⟨r.name.1, (r.name.2.step.term.1 :: (args r.name.2.l.length r.name.2.step.term.2).1).take 5⟩,
    if 5 < (args r.name.2.l.length r.name.2.step.term.2).1.length + 1 then { (args r.name.2.l.length r.name.2.step.term.2).2.want 5 [41] with wrong := true } else (args r.name.2.l.length r.name.2.step.term.2).2.want 5 [41]) := by
  unfold atom; dsimp only; rw [if_pos h]; rfl
theorem args_l : ∀ (f : Nat) (r : Rd), (args f r).2.l = r.l ∧ r.i ≤ (args f r).2.i
  | 0, r => ⟨rfl, Nat.le_refl _⟩
  | f + 1, r => by
    rw [args]
    split
    · have h1 := args_l f r.step.term.2
      have h2 := term_l r.step
      have h3 : r.i + 1 ≤ r.step.term.2.i := h2.2.1
      exact ⟨h1.1.trans h2.1, by have := h1.2; dsimp only; omega⟩
    · exact ⟨rfl, Nat.le_refl _⟩
theorem atom_l (r : Rd) : r.atom.2.l = r.l ∧ r.i ≤ r.atom.2.i := by
  have h1 := name_l r
  have hb : r.name.2.brack.2.l = r.l ∧ r.i ≤ r.name.2.brack.2.i := by
    unfold brack
    dsimp only
    have h2 := term_l r.name.2.step
    have h3 := args_l r.name.2.l.length r.name.2.step.term.2
    have h4 := want_l (args r.name.2.l.length r.name.2.step.term.2).2 5 [41]
    have h5 : r.name.2.i + 1 ≤ r.name.2.step.term.2.i := h2.2.1
    exact ⟨h4.1.trans (h3.1.trans (h2.1.trans h1.1)), by omega⟩
  unfold atom
  dsimp only
  split
  · dsimp only; split <;> exact hb
  · exact h1
end Rd
/-! the length of a text -/
theorem nDigits_le : ∀ k u : Nat, u < 10 ^ k → 1 ≤ k → Lib.nDigits u ≤ k
  | 0, u, _, h => by omega
  | k + 1, u, h, _ => by
    rw [Lib.nDigits]
    split
    · omega
    · rename_i hu
      cases k with
      | zero => omega
      | succ k =>
        have := nDigits_le (k + 1) (u / 10) (by rw [Nat.pow_succ] at h; omega) (by omega)
        omega
theorem itoa_len {n : Int} (h : inR n = true) : (Lib.itoa n).length ≤ 20 := by
  simp only [inR, decide_eq_true_eq] at h
  unfold Lib.itoa
  split
  · rw [List.length_cons, Lib.decDigits_length]
    have := nDigits_le 19 n.natAbs (by omega) (by omega)
    omega
  · rw [Lib.decDigits_length]
    have := nDigits_le 19 n.toNat (by omega) (by omega)
    omega
theorem textV_len {v : Val} (h : checkS v = true) : (textV v).length ≤ 122 := by
  rcases check_cases h with ⟨_, h2, _, h4⟩ | ⟨_, _, h3, h4⟩ | ⟨_, _, h3, h4⟩ <;> rw [h4]
  · have := itoa_len h2; omega
  · simp [symbolS] at h3; omega
  · simp [plainS] at h3
    have := flatMap_len v.s
    simp only [quotedS, List.length_append, List.length_cons, List.length_nil]; omega
theorem termT_len {t : Trm} (h : termOk t = true) : (termT t).length ≤ 122 := by
  unfold termOk at h
  unfold termT
  split
  · rename_i hv; rw [if_pos hv] at h; exact textV_len h
  · rename_i hv
    rw [if_neg hv, Bool.and_eq_true] at h
    have := h.1
    simp [varS, refWordS] at this; omega
theorem weave_tail_len : ∀ l : List Trm, l.all termOk = true → (weaveK (tailK l)).length ≤ 124 * l.length + 1
  | [], _ => by simp [tailK, weaveK]
  | t :: r, h => by
    rw [List.all_cons, Bool.and_eq_true] at h
    have := weave_tail_len r h.2
    have := termT_len h.1
    simp only [tailK, weaveK, termK_T, List.length_append, List.length_cons, List.length_nil]; omega
theorem atomT_len {a : Atm} (h : atomOk a = true) : (atomT a).length ≤ 700 := by
  unfold atomOk at h
  rw [Bool.and_eq_true, Bool.and_eq_true, decide_eq_true_eq] at h
  obtain ⟨⟨h1, h2⟩, h3⟩ := h
  have hn := nameS_word h1
  simp [refWordS] at hn
  unfold atomT atomK argsK
  rw [weaveK]
  split
  · simp [weaveK]; omega
  · rename_i t r e
    rw [e, List.all_cons, Bool.and_eq_true] at h3
    rw [e, List.length_cons] at h2
    have := weave_tail_len r h3.2
    have := termT_len h3.1
    simp only [weaveK, termK_T, List.length_append, List.length_cons, List.length_nil]; omega
end Go.PV
namespace Go.PV
open Go Go.Proofs
set_option maxRecDepth 100000
theorem sletter_good (c : UInt8) : Good Tryz.prog 251 [.int .u8 c.toNat] [] [.bool (letterB c)] [] := by
  refine good_of hP Tryz.func251 (by kernel_rfl) (lv := [0, 2]) (js := []) ⟨rfl, rfl, rfl, rfl, rfl, rfl, _, rfl, ?_⟩
  repeat' (conv => whnf); refine branch_of (fun _ => ?_) (fun _ => ?_)
  all_goals (conv => whnf); exact fin0 (by simp_all [letterB, smallB, largeB, digitB, inB] <;> first | omega | (rw [Bool.eq_iff_iff]; simp; omega)) trivial
theorem svar_good (s : Bs) (hs : s.length ≤ 1000000) : Good Tryz.prog 234 [.str s] [] [.bool (varS s)] [] := by
  refine good_of hP Tryz.func234 (by kernel_rfl) (lv := [0, 2, 3, 21, 23, 24, 25, 31]) (js := [21]) ⟨rfl, rfl, rfl, rfl, rfl, rfl, _, rfl, ?_⟩
  conv => whnf
  refine seq_of hP [0, 2, 3, 21, 23, 24, 25, 31] [21] [0] [] [] (fun st => varS s = s.all letterB ∧ st = ⟨[(0, .str s)], []⟩) ?_ ?_
  · conv => whnf
    refine branch_of (fun h => ?_) (fun h => ?_)
    · have h := of_decide_eq_true h
      conv => whnf
      exact fin0 (by simp [varS, refWordS]; omega) trivial
    have h := of_decide_eq_false h
    conv => whnf
    refine branch_of (fun h2 => ?_) (fun h2 => ?_)
    · have h2 := of_decide_eq_true h2
      conv => whnf
      exact fin0 (by simp [varS, refWordS]; omega) trivial
    have h2 := of_decide_eq_false h2
    have h0 : 0 < s.length := by omega
    obtain ⟨c, r, hcr, hc⟩ := head_at h0
    have hw : varS s = (largeB c && s.all letterB) := by
      have e1 : decide (1 ≤ s.length) = true := by simp; omega
      have e2 : decide (s.length ≤ 24) = true := by simp; omega
      have : headB largeB s = largeB c := by rw [hcr]; rfl
      simp [varS, refWordS, e1, e2, this]
    rw [hw]
    conv => whnf
    refine ⟨c, by rw [← hc]; exact idx h0 rfl, ?_⟩
    conv => whnf
    refine branch_of (fun h3 => ?_) (fun h3 => ?_)
    · have h3 := of_decide_eq_true h3
      conv => whnf
      exact fin0 (by simp [largeB, inB]; omega) trivial
    have h3 := of_decide_eq_false h3
    conv => whnf
    refine ⟨c, by rw [← hc]; exact idx h0 rfl, ?_⟩
    conv => whnf
    refine branch_of (fun h4 => ?_) (fun h4 => ?_)
    · have h4 := of_decide_eq_true h4
      conv => whnf
      exact fin0 (by simp [largeB, inB]; omega) trivial
    have h4 := of_decide_eq_false h4
    conv => whnf
    have hl : largeB c = true := by simp [largeB, inB]; omega
    exact ⟨by rw [hl]; rfl, rfl⟩
  rintro st ⟨hw, rfl⟩
  rw [hw]
  conv => whnf
  refine loop_of hP [0, 2, 3, 21, 23, 24, 25, 31] [21] [0, 23, 24] [] [] (fun n st => ∃ k : Nat, n = s.length - k ∧ k ≤ s.length ∧ s.all letterB = (s.drop k).all letterB ∧ st = ⟨[(0, .str s), (23, .int .i64 s.length), (24, .int .i64 k)], []⟩) s.length ?_ ?_
  · conv => whnf
    exact ⟨0, rfl, Nat.zero_le _, rfl, rfl⟩
  · rintro n st ⟨k, rfl, hk, he, rfl⟩
    conv => whnf
    refine branch_of (fun h => ?_) (fun h => ?_)
    · have h := of_decide_eq_true h
      have hk' : k < s.length := by omega
      rw [all_drop hk'] at he
      conv => whnf
      refine ⟨s[k], idx hk' rfl, ?_⟩
      conv => whnf
      refine call0 (sletter_good _) ?_
      cases hl : letterB s[k] with
      | false =>
        rw [hl] at he
        conv => whnf
        exact fin0 (by rw [he]; rfl) trivial
      | true =>
        rw [hl, Bool.true_and] at he
        conv => whnf
        refine ⟨s.length - (k + 1), by omega, k + 1, rfl, by omega, he, ?_⟩
        rw [wr (by omega) (by omega)]; rfl
    · have h := of_decide_eq_false h
      have : s.drop k = [] := List.drop_eq_nil_iff.2 (by omega)
      rw [this] at he
      conv => whnf
      exact fin0 (by rw [he]; rfl) trivial
abbrev strV (l : List Bs) : List (List V) := l.map fun x => [.str x]
theorem index_good (l : List Bs) (s : Bs) (hl : l.length ≤ 1000000) : Good Tryz.prog 229 [.sl 1 (strV l), .str s] [] [.int .i64 (match l.findIdx? (fun x => decide (s = x)) with | some i => (i : Int) | none => -1)] [] := by
  refine good_of hP Tryz.func229 (by kernel_rfl) (lv := [0, 1, 4, 5, 7, 8, 9, 16]) (js := []) ⟨rfl, rfl, rfl, rfl, rfl, rfl, _, rfl, ?_⟩
  conv => whnf
  refine loop_of hP [0, 1, 4, 5, 7, 8, 9, 16] [] [0, 1, 7, 8] [] [] (fun n st => ∃ k : Nat, n = l.length - k ∧ k ≤ l.length ∧ (∀ j (h : j < l.length), j < k → s ≠ l[j]) ∧ st = ⟨[(0, .sl 1 (strV l)), (1, .str s), (7, .int .i64 l.length), (8, .int .i64 k)], []⟩) l.length ?_ ?_
  · conv => whnf
    exact ⟨0, rfl, Nat.zero_le _, fun j _ h => by omega, by rw [← List.length_map (f := fun x => [V.str x])]; rfl⟩
  · rintro n st ⟨k, rfl, hk, hn, rfl⟩
    conv => whnf
    refine branch_of (fun h => ?_) (fun h => ?_)
    · have h := of_decide_eq_true h
      have hk' : k < l.length := by omega
      conv => whnf
      refine ⟨[.str l[k]], idxM hk' rfl, ?_⟩
      conv => whnf
      refine branch_of (fun h2 => ?_) (fun h2 => ?_)
      · have h2 := of_decide_eq_true h2
        conv => whnf
        refine fin0 ?_ trivial
        have : l.findIdx? (fun x => decide (s = x)) = some k := by
          rw [List.findIdx?_eq_some_iff_getElem]
          exact ⟨hk', by simp [h2], fun j hj => by simpa using hn j (by omega) hj⟩
        rw [this]
      · have h2 := of_decide_eq_false h2
        conv => whnf
        refine ⟨l.length - (k + 1), by omega, k + 1, rfl, by omega, fun j hj hjk => ?_, ?_⟩
        · by_cases e : j = k
          · subst e; exact h2
          · exact hn j hj (by omega)
        · rw [wr (by omega) (by omega)]; rfl
    · have h := of_decide_eq_false h
      conv => whnf
      refine fin0 ?_ trivial
      have : l.findIdx? (fun x => decide (s = x)) = none := by
        rw [List.findIdx?_eq_none_iff]
        intro x hx
        obtain ⟨j, hj, rfl⟩ := List.getElem_of_mem hx
        simpa using hn j hj (by omega)
      rw [this]
theorem contains_good (l : List Bs) (s : Bs) (hl : l.length ≤ 1000000) : Good Tryz.prog 193 [.sl 1 (strV l), .str s] [] [.bool (decide (s ∈ l))] [] := by
  refine good_of hP Tryz.func193 (by kernel_rfl) (lv := [0, 1, 4]) (js := []) ⟨rfl, rfl, rfl, rfl, rfl, rfl, _, rfl, ?_⟩
  conv => whnf
  refine call0 (index_good l s hl) ?_
  conv => whnf
  refine fin0 ?_ trivial
  congr 2
  rw [decide_eq_decide]
  split
  · rename_i i hi
    rw [List.findIdx?_eq_some_iff_getElem] at hi
    obtain ⟨h1, h2, _⟩ := hi
    have : s = l[i] := by simpa using h2
    refine ⟨fun _ => this ▸ List.getElem_mem h1, fun _ => by omega⟩
  · rename_i hi
    rw [List.findIdx?_eq_none_iff] at hi
    refine ⟨fun h => by omega, fun h => ?_⟩
    have := hi s h; simp at this
theorem fword_good (s : Bs) : Good Tryz.prog 186 [.str s] [] [.bool (decide (s ∈ wordsL))] [] := by
  refine good_of hP Tryz.func186 (by kernel_rfl) (lv := [0, 2]) (js := []) ⟨rfl, rfl, rfl, rfl, rfl, rfl, _, rfl, ?_⟩
  conv => whnf
  refine call0 (contains_good wordsL s (by decide)) ?_
  conv => whnf
  exact fin0 rfl trivial
theorem fname_good (s : Bs) (hs : s.length ≤ 1000000) : Good Tryz.prog 120 [.str s] [] [.bool (nameS s)] [] := by
  refine good_of hP Tryz.func120 (by kernel_rfl) (lv := [0, 2]) (js := []) ⟨rfl, rfl, rfl, rfl, rfl, rfl, _, rfl, ?_⟩
  have e : nameS s = (symbolS s && !decide (s ∈ wordsL)) := by rw [symbol_word]; rfl
  have hc : checkS ⟨2, 0, s⟩ = symbolS s := by simp [checkS]
  rw [e]
  conv => whnf
  refine call0 (check_good ⟨2, 0, s⟩ (by dsimp only; omega)) ?_
  rw [hc]
  cases symbolS s with
  | false =>
    conv => whnf
    exact fin0 rfl trivial
  | true =>
    conv => whnf
    refine call0 (fword_good s) ?_
    conv => whnf
    exact fin0 rfl trivial
theorem mterm_good (t : Trm) (h1 : t.v.length ≤ 1000000) (h2 : t.x.s.length ≤ 1000000) : Good Tryz.prog 207 [.agg t.c] [] [.bool (termOk t)] [] := by
  refine good_of hP Tryz.func207 (by kernel_rfl) (lv := [0, 1, 2, 5]) (js := []) ⟨rfl, rfl, rfl, rfl, rfl, rfl, _, rfl, ?_⟩
  conv => whnf
  refine branch_of (fun h => ?_) (fun h => ?_)
  · have h : t.v = [] := by simpa using h
    have e : termOk t = checkS t.x := by unfold termOk; rw [if_pos h]
    rw [e]
    conv => whnf
    refine call0 (check_good t.x (by omega)) ?_
    cases checkS t.x with
    | false =>
      conv => whnf
      exact fin0 rfl trivial
    | true =>
      conv => whnf
      exact fin0 rfl trivial
  · have h : t.v ≠ [] := by simpa using h
    have e : termOk t = (varS t.v && decide (t.x = zeroV)) := by unfold termOk; rw [if_neg h]
    rw [e]
    conv => whnf
    refine call0 (svar_good t.v (by omega)) ?_
    cases varS t.v with
    | false =>
      conv => whnf
      exact fin0 rfl trivial
    | true =>
      conv => whnf
      refine ⟨_, (eqVal t.x zeroV).1, ?_⟩
      conv => whnf
      exact fin0 (by simp) trivial
theorem mclos_good (t : Trm) (h1 : t.v.length ≤ 1000000) (h2 : t.x.s.length ≤ 1000000) : Good Tryz.prog 206 [.agg t.c] [] [.bool (!termOk t)] [] := by
  refine good_of hP Tryz.func206 (by kernel_rfl) (lv := [0, 1, 2]) (js := []) ⟨rfl, rfl, rfl, rfl, rfl, rfl, _, rfl, ?_⟩
  conv => whnf
  refine call0 (mterm_good t h1 h2) ?_
  conv => whnf
  exact fin0 rfl trivial
theorem indexF_good (l : List Trm) (hl : l.length ≤ 1000000) (g : FuncId) (p : Trm → Bool) (hg : ∀ t ∈ l, Good Tryz.prog g [.agg t.c] [] [.bool (p t)] []) : Good Tryz.prog 233 [.sl 4 (trmV l), .fn g []] [] [.int .i64 (match l.findIdx? p with | some i => (i : Int) | none => -1)] [] := by
  refine good_of hP Tryz.func233 (by kernel_rfl) (lv := [0, 1, 4, 5, 7, 8, 9, 16]) (js := []) ⟨rfl, rfl, rfl, rfl, rfl, rfl, _, rfl, ?_⟩
  conv => whnf
  refine loop_of hP [0, 1, 4, 5, 7, 8, 9, 16] [] [0, 1, 7, 8] [] [] (fun n st => ∃ k : Nat, n = l.length - k ∧ k ≤ l.length ∧ (∀ j (h : j < l.length), j < k → p l[j] = false) ∧ st = ⟨[(0, .sl 4 (trmV l)), (1, .fn g []), (7, .int .i64 l.length), (8, .int .i64 k)], []⟩) l.length ?_ ?_
  · conv => whnf
    exact ⟨0, rfl, Nat.zero_le _, fun j _ h => by omega, by rw [← List.length_map (f := Trm.c)]; rfl⟩
  · rintro n st ⟨k, rfl, hk, hn, rfl⟩
    conv => whnf
    refine branch_of (fun h => ?_) (fun h => ?_)
    · have h := of_decide_eq_true h
      have hk' : k < l.length := by omega
      conv => whnf
      refine ⟨Trm.c l[k], idxM hk' rfl, ?_⟩
      conv => whnf
      refine call0 (hg _ (List.getElem_mem hk')) ?_
      cases hp : p l[k] with
      | true =>
        conv => whnf
        refine fin0 ?_ trivial
        have : l.findIdx? p = some k := by
          rw [List.findIdx?_eq_some_iff_getElem]
          exact ⟨hk', hp, fun j hj => by simpa using hn j (by omega) hj⟩
        rw [this]
      | false =>
        conv => whnf
        refine ⟨l.length - (k + 1), by omega, k + 1, rfl, by omega, fun j hj hjk => ?_, ?_⟩
        · by_cases e : j = k
          · subst e; exact hp
          · exact hn j hj (by omega)
        · rw [wr (by omega) (by omega)]; rfl
    · have h := of_decide_eq_false h
      conv => whnf
      refine fin0 ?_ trivial
      have : l.findIdx? p = none := by
        rw [List.findIdx?_eq_none_iff]
        intro x hx
        obtain ⟨j, hj, rfl⟩ := List.getElem_of_mem hx
        exact hn j hj (by omega)
      rw [this]
theorem any_idx {α : Type} (l : List α) (p : α → Bool) : decide (0 ≤ (match l.findIdx? p with | some i => (i : Int) | none => -1)) = l.any p := by
  rw [Bool.eq_iff_iff, decide_eq_true_eq]
  split
  · rename_i i hi
    rw [List.findIdx?_eq_some_iff_getElem] at hi
    obtain ⟨h1, h2, _⟩ := hi
    exact ⟨fun _ => List.any_eq_true.2 ⟨_, List.getElem_mem h1, h2⟩, fun _ => by omega⟩
  · rename_i hi
    rw [List.findIdx?_eq_none_iff] at hi
    refine ⟨fun h => by omega, fun h => ?_⟩
    obtain ⟨x, h1, h2⟩ := List.any_eq_true.1 h
    rw [hi x h1] at h2; cases h2
theorem containsF_good (l : List Trm) (hl : l.length ≤ 1000000) (g : FuncId) (p : Trm → Bool) (hg : ∀ t ∈ l, Good Tryz.prog g [.agg t.c] [] [.bool (p t)] []) : Good Tryz.prog 205 [.sl 4 (trmV l), .fn g []] [] [.bool (l.any p)] [] := by
  refine good_of hP Tryz.func205 (by kernel_rfl) (lv := [0, 1, 4]) (js := []) ⟨rfl, rfl, rfl, rfl, rfl, rfl, _, rfl, ?_⟩
  conv => whnf
  refine call0 (indexF_good l hl g p hg) ?_
  conv => whnf
  refine fin0 ?_ trivial
  rw [any_idx]
/-- lengths that are played -/
def trmB (t : Trm) : Prop := t.v.length ≤ 1000000 ∧ t.x.s.length ≤ 1000000
def atmB (a : Atm) : Prop := a.n.length ≤ 1000000 ∧ a.a.length ≤ 1000000 ∧ ∀ t ∈ a.a, trmB t
theorem mcheck_good (a : Atm) (h : atmB a) : Good Tryz.prog 142 [.agg a.c] [] [.int .i64 (if atomOk a then 0 else 1)] [] := by
  refine good_of hP Tryz.func142 (by kernel_rfl) (lv := [0, 1, 2, 17]) (js := []) ⟨rfl, rfl, rfl, rfl, rfl, rfl, _, rfl, ?_⟩
  conv => whnf
  refine call0 (fname_good a.n h.1) ?_
  cases hn : nameS a.n with
  | false =>
    conv => whnf
    exact fin0 (by simp [atomOk, hn]) trivial
  | true =>
    conv => whnf
    refine branch_of (fun h1 => ?_) (fun h1 => ?_)
    · have h1 := of_decide_eq_true h1
      rw [List.length_map] at h1
      conv => whnf
      exact fin0 (by simp [atomOk]; omega) trivial
    · have h1 := of_decide_eq_false h1
      rw [List.length_map] at h1
      conv => whnf
      refine call0 (containsF_good a.a h.2.1 _ (fun t => !termOk t) (fun t ht => mclos_good t (h.2.2 t ht).1 (h.2.2 t ht).2)) ?_
      have e : atomOk a = !(a.a.any fun t => !termOk t) := by
        have h1 : decide (a.a.length ≤ 5) = true := by simp; omega
        rw [atomOk, hn, h1, List.not_any_eq_all_not]; simp
      rw [e]
      cases a.a.any fun t => !termOk t with
      | true =>
        conv => whnf
        exact fin0 rfl trivial
      | false =>
        conv => whnf
        exact fin0 rfl trivial
end Go.PV
