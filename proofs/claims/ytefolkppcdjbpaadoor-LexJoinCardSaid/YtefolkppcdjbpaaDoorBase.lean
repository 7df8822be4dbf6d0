/- Part of the proof of LexJoin. -/
import Derived.Test.YtefolkppcdjbpaaDoorPvS
import Derived.Test.YtefolkppcdjbpaaDoorProg
import Derived.Test.YtefolkppcdjbpaaDoorShelf
import Derived.WalkSmall
import Derived.Lib.SmallJoins
namespace Go.PV
open Go Go.Proofs Go.RowKit
theorem hP : Tryd.prog.follows .mixedOrders = true := by kernel_rfl
noncomputable def gi (n : String) : Nat := match Tryd.prog.globalNamed n with
  | some g => g + 1
  | none => 0
/-- so many blocks hold all the package variables that are read -/
noncomputable def nGlob : Nat := max (gi "internal/strconv.uint64pow10") (max (gi "strconv.ErrSyntax") (gi "strconv.ErrRange"))
theorem gi_le {w : World} {n : String} {cs : Array Value} {v : Value} (hv : w.var? Tryd.prog n = some cs) (h0 : cs[0]? = some v) : gi n ≤ w.heap.size := by
  unfold gi
  split
  · rename_i g hg
    exact World.block_lt_of_cell? w ⟨g, 0, none⟩ ((World.var?_cell hg hv 0).trans h0)
  · omega
noncomputable def inG (n : String) : Bool := match Tryd.prog.globalNamed n with
  | some g => Nat.blt g nGlob
  | none => true
theorem var_same {w w' : World} {n : String} (hn : inG n = true) (h : ∀ k, k < nGlob → w'.heap[k]? = w.heap[k]?) : w'.var? Tryd.prog n = w.var? Tryd.prog n := by
  unfold inG at hn
  unfold World.var?
  split at hn
  · rename_i g hg
    simp only [hg, Option.bind_some]
    rw [h g (by have := hn; simp [Nat.blt] at this; omega)]
  · rename_i hg
    simp [hg]
def LaidZ (w : World) : Prop := Lib.TabIs Tryd.prog w "internal/strconv.uint64pow10" .u64 Lib.pow10Tab ∧ (∃ tp p, w.var? Tryd.prog "strconv.ErrSyntax" = some #[.iface tp p]) ∧ (∃ tp p, w.var? Tryd.prog "strconv.ErrRange" = some #[.iface tp p])
theorem in_pow : inG "internal/strconv.uint64pow10" = true := by kernel_rfl
theorem in_syn : inG "strconv.ErrSyntax" = true := by kernel_rfl
theorem in_ran : inG "strconv.ErrRange" = true := by kernel_rfl
theorem glob_size {w : World} (h : LaidZ w) : nGlob ≤ w.heap.size := by
  obtain ⟨h1, ⟨a, b, h2⟩, ⟨c, d, h3⟩⟩ := h
  have e1 := gi_le (v := .int .u64 1) h1 (by kernel_rfl)
  have e2 := gi_le h2 rfl
  have e3 := gi_le h3 rfl
  unfold nGlob; omega
noncomputable instance : Env Tryd.prog where
  ng := nGlob
  Z := LaidZ
  st := fun w w' h hz => by
    obtain ⟨h1, ⟨a, b, h2⟩, ⟨c, d, h3⟩⟩ := hz
    exact ⟨by unfold Lib.TabIs; rw [var_same in_pow h]; exact h1, ⟨a, b, by rw [var_same in_syn h]; exact h2⟩, ⟨c, d, by rw [var_same in_ran h]; exact h3⟩⟩
theorem indexByte_good (s : List UInt8) (c : UInt8) : Good Tryd.prog 14 [.str s, .int .u8 c.toNat] [] [.int .i64 (Lib.indexByte s c)] [] := by
  refine good_of_calls Tryd.func14 (by kernel_rfl) (by kernel_rfl) rfl fun vs w G hc hz => ?_
  obtain ⟨v, u, rfl, h1, h2⟩ := cells2 hc
  cases h1.str_eq; cases h2.int_eq
  refine (Tryd.strings_IndexByte _ _ w).mono fun e w' h => ?_
  obtain ⟨h3, rfl⟩ := h
  refine ⟨_, h3, ?_, Below.refl _ _⟩
  have : ((c.toNat : Int).toNat.toUInt8) = c := by simp
  rw [this]
  exact .int _ _
theorem itoa_good (n : Int) (h0 : -9223372036854775808 ≤ n) (h1 : n ≤ 9223372036854775807) : Good Tryd.prog 47 [.int .i64 n] [] [.str (Lib.itoa n)] [] := by
  refine good_of_calls Tryd.func47 (by kernel_rfl) (by kernel_rfl) rfl fun vs w G hc hz => ?_
  obtain ⟨v, rfl, h2⟩ := cells1 hc
  cases h2.int_eq
  refine (Tryd.strconv_Itoa n h0 h1 w hz.1).mono fun e w' h => ?_
  obtain ⟨h3, k, os, rfl⟩ := h
  refine ⟨_, h3, .str _, ?_⟩
  exact ⟨rfl, rfl, rfl, by simp [Sort.grow, World.drewN], fun i hi => by
    show (w.heap ++ os)[i]? = w.heap[i]?
    rw [Array.getElem?_append, if_pos hi]⟩
theorem atoi_good (s : List UInt8) (hs : s.length ≤ 281474976710656) : Good Tryd.prog 33 [.str s] [] [.int .i64 (atoiN s), errV (atoiOk s)] [] := by
  have hok : ([.int .i64 (atoiN s), errV (atoiOk s)] : List V).all (okA 0) = true := by cases h : atoiOk s <;> simp [errV, okA, okC, okB]
  refine good_of_calls Tryd.func33 (by kernel_rfl) (by kernel_rfl) hok fun vs w G hc hz => ?_
  obtain ⟨v, rfl, h2⟩ := cells1 hc
  cases h2.str_eq
  have hsz : (⟨s.toArray⟩ : ByteArray).size = s.length := by simp [ByteArray.size]
  cases h : Lib.atoiAll s with
  | ok v =>
    have e1 : atoiN s = v := by unfold atoiN; rw [h]
    have e2 : atoiOk s = true := by unfold atoiOk; rw [h]
    rw [e1, e2]
    refine (Tryd.strconv_Atoi_ok _ (by omega) v h w).mono fun e w' hh => ?_
    obtain ⟨h3, h4⟩ := hh
    refine ⟨_, h3, ⟨_, rfl, .two (.int _ _) .nili⟩, ?_⟩
    rcases h4 with rfl | ⟨t, rfl⟩
    · exact Below.refl _ _
    · exact Lib.bytesWorld_below _ _ _
  | «syntax» =>
    have e1 : atoiN s = 0 := by unfold atoiN; rw [h]
    have e2 : atoiOk s = false := by unfold atoiOk; rw [h]
    rw [e1, e2]
    obtain ⟨_, ⟨tp, p, hv⟩, _⟩ := hz
    refine (Tryd.strconv_Atoi_syntax_var _ (by omega) h tp p w hv).mono fun e w' hh => ?_
    obtain ⟨N, h3, _, _, h4⟩ := hh
    exact ⟨_, h3, ⟨_, rfl, .two (.int _ _) (.ifc _ _)⟩, h4⟩
  | range =>
    have e1 : atoiN s = Lib.atoiSat s := by unfold atoiN; rw [h]
    have e2 : atoiOk s = false := by unfold atoiOk; rw [h]
    rw [e1, e2]
    obtain ⟨_, _, ⟨tp, p, hv⟩⟩ := hz
    refine (Tryd.strconv_Atoi_range_var _ (by omega) h tp p w hv).mono fun e w' hh => ?_
    obtain ⟨N, h3, _, _, h4⟩ := hh
    exact ⟨_, h3, ⟨_, rfl, .two (.int _ _) (.ifc _ _)⟩, h4⟩
theorem join_good (l : List (List UInt8)) (sep : List UInt8) (h1 : l.length ≤ 140737488355328) (h2 : (Lib.join l sep).length ≤ 140737488355328) :
    Good Tryd.prog 13 [.sl 1 (l.map fun x => [.str x]), .str sep] [] [.str (Lib.join l sep)] [] := by
  refine good_of_calls Tryd.func13 (by kernel_rfl) (by kernel_rfl) rfl fun vs w G hc hz => ?_
  obtain ⟨v, u, rfl, h3, h4⟩ := cells2 hc
  cases h4.str_eq
  rcases h3.strs_eq with ⟨rfl, a, c, rfl⟩ | ⟨b, off, cap, rfl, hcap, hc⟩
  · refine (Tryd.strings_Join_none a c _ w).mono fun e w' h => ?_
    obtain ⟨h5, rfl⟩ := h
    exact ⟨_, h5, .str _, Below.refl _ _⟩
  · by_cases hl : l = []
    · subst hl
      refine (Tryd.strings_Join_none _ _ _ w).mono fun e w' h => ?_
      obtain ⟨h5, rfl⟩ := h
      exact ⟨_, h5, .str _, Below.refl _ _⟩
    · have hb : b < w.heap.size := by
        obtain ⟨x, r, rfl⟩ := List.exists_cons_of_ne_nil hl
        exact World.block_lt_of_cell? w ⟨b, off + 0, none⟩ (hc 0 x rfl)
      have e1 : (l.map fun x => (⟨x.toArray⟩ : ByteArray)).map (·.data.toList) = l := by
        rw [List.map_map]; exact (List.map_congr_left fun x _ => by simp).trans (List.map_id' l)
      have := Tryd.strings_Join b off cap (l.map fun x => ⟨x.toArray⟩) ⟨sep.toArray⟩ w (fun j x hj => by
        rw [List.getElem?_map] at hj
        cases hx : l[j]? with
        | none => rw [hx] at hj; simp at hj
        | some y => rw [hx] at hj; simp at hj; subst hj; exact hc j y hx) hb (by simpa using h1) (by simpa using hcap) (by rw [e1]; exact h2)
      rw [e1, List.length_map] at this
      refine this.mono fun e w' h => ?_
      exact ⟨_, h.1, .str _, h.2⟩
end Go.PV
