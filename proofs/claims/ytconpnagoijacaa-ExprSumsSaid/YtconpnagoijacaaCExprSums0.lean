/- Part 1 of the proof of ExprSums: words, contracts of functions of the program (what a call answers), and what the answers say. -/
import Derived.Tactics
import Derived.KernelRfl
import Derived.Deep.QuietTactic
import Derived.RowKit
import Derived.Test.YtconpnagoijacaaProg
import Derived.Below
import Derived.Deep.Draws
import Derived.Deep.AppendLies
import Derived.Maps.AppendAt
import Derived.OwnWalk
import Derived.Laws.BytesArg
import Derived.Laws.MakeOwn
import Derived.Laws.OwnMore
import Derived.Deep.OwnRows
import Derived.Lib.ConvBytes
import Derived.Laws.Slices
import Derived.WalkKit
import Derived.RowKit3
import Derived.Deep.LoopGhost
import Derived.BigQuiet
import Derived.WideLaws
import Derived.Deep.DeepCutAuto
import Derived.Deep.CutBlock
import Derived.Deep.RegionHeld3
import Derived.Laws.Rows
import Derived.Lib.AppendStr
import Derived.ArgAppend
import Derived.Laws.IdiomCopy
import Derived.OrdersHeld
import Derived.Laws.BitsLemmas
import Derived.Test.YtconpnagoijacaaVWords
import Derived.Test.YtconpnagoijacaaVLast
import Derived.Test.YtconpnagoijacaaVApart
import Derived.Test.YtconpnagoijacaaVArr
import Derived.Test.YtconpnagoijacaaVFoot
import Derived.Test.YtconpnagoijacaaVKept
import Derived.Test.YtconpnagoijacaaVShare
import Derived.Test.YtconpnagoijacaaVZeros
import Derived.Test.YtconpnagoijacaaVN
import Derived.Test.YtconpnagoijacaaVFootNe
import Derived.Test.YtconpnagoijacaaVAt
import Derived.Test.YtconpnagoijacaaVEqStruct
import Derived.Test.YtconpnagoijacaaVTab
import Derived.Test.YtconpnagoijacaaVFour
import Derived.Test.YtconpnagoijacaaVGuard
import Derived.Test.YtconpnagoijacaaVInv
import Derived.Test.YtconpnagoijacaaVInvWords
import Derived.Test.YtconpnagoijacaaVQPut
import Derived.Test.YtconpnagoijacaaVNEv
import Derived.Test.YtconpnagoijacaaVMore
import Derived.Test.YtconpnagoijacaaVRepsOne
import Derived.Test.YtconpnagoijacaaVSized
section
namespace Go.Proofs.Ytconpnagoijacaa.P
open Go.RowKit Go.Proofs.YtconpnagoijacaaW.PrintWords Go.Proofs.YtconpnagoijacaaW.PrintLast Go.Proofs.YtconpnagoijacaaW.PrintMore
theorem bu_ {w W : World} {g : Nat} {o : Obj} (h : Aside0 (w.heap[g]? = some o))
    (k : w.heap[g]? = some o → W.heap[g]? = some o := by
      (intro h_; repeat (first | (with_reducible first | exact h_ | refine blk_drewN ?_ _ | refine blk_drew ?_ | refine blk_alloc ?_ _) | (apply blk_far; (case hp => exact Aside0.out (by assumption))) | exact h_))) : W.heap[g]? = some o := k h.out
theorem bp_ {w W : World} {g : Nat} {o o' : Obj} (h : Aside0 (w.heap[g]? = some o))
    (k : w.heap[g]? = some o → W.heap[g]? = some o' := by
      (intro h_; repeat (first | (with_reducible first | exact h_ | refine blk_drewN ?_ _ | refine blk_drew ?_ | refine blk_alloc ?_ _) | (apply blk_far; (case hp => exact Aside0.out (by assumption))) | apply blk_put | rfl))) : W.heap[g]? = some o' := k h.out
theorem bb_ {w w1 : World} {g : Nat} {o : Obj} (h : w.heap[g]? = some o) (hb : Below w.heap.size w w1) : Aside0 (w1.heap[g]? = some o) := ⟨blk_below h hb⟩
theorem be_ {b w W : World} (h : Aside0 (Below b.heap.size b w))
    (k : Below b.heap.size b w → Below b.heap.size b W := by
      (intro h_; repeat (first | (with_reducible first | exact h_ | apply below_alloc | apply pw_below_drewN | apply below_drew1 | refine below_set ?_ (Aside0.out (by assumption))) | exact h_))) : Below b.heap.size b W := k h.out
theorem bs_ {w W w2 : World} (h : Below w.heap.size w W) (k : Below W.heap.size W w2) : Aside0 (Below w.heap.size w w2) := ⟨below_step h k⟩
theorem gs_ {w W : World} {g : Nat} (hg : g = W.heap.size) (h : Below w.heap.size w W) : Aside0 (w.heap.size ≤ g) := ⟨by rw [hg]; exact below_size h⟩
theorem nl_ {W : World} {g g' : Nat} {o : Obj} (hg : g' = W.heap.size) (h : W.heap[g]? = some o) : Aside0 (g ≠ g') := ⟨by rw [hg]; exact Nat.ne_of_lt (blk_lt h)⟩
theorem ng_ {W : World} {g g' : Nat} {o : Obj} (hg : g' = W.heap.size) (h : W.heap[g]? = some o) : Aside0 (g' ≠ g) := ⟨by rw [hg]; exact Nat.ne_of_gt (blk_lt h)⟩
theorem ku_ {α : Type} {d : Kd α} {e : Nat} {w W : World} {base : Nat} {ok : Nat → Prop} {v : Value} {xs : List α} (h : d.R e w base ok v xs)
    (k : d.R e w base ok v xs → d.R e W base ok v xs := by
      (intro h_; (with_reducible repeat (first | apply Kd.R_alloc | apply Kd.R_drewN | apply Kd.R_drew)); exact h_)) : d.R e W base ok v xs := k h
theorem kb_ {α : Type} {d : Kd α} {e : Nat} {w w1 : World} {base : Nat} {ok : Nat → Prop} {v : Value} {xs : List α} (h : d.R e w base ok v xs) (hb : Below w.heap.size w w1) : Aside0 (d.R e w1 base ok v xs) := ⟨Kd.R_below h hb⟩
theorem cl_ {b W W1 : World} {a : Addr} {v : Value} (HB : Aside0 (Below b.heap.size b W)) (h : b.cell? a = some v) (e : W1.cell? a = W.cell? a := by rfl) : W1.cell? a = some v := e.trans ((HB.out.cell (World.block_lt_of_cell? b _ h)).trans h)
theorem cm_ {b W : World} {a : Addr} {v : Value} (HB : Aside0 (Below b.heap.size b W)) (h : b.cell? a = some v) : W.cell? a = some v := (HB.out.cell (World.block_lt_of_cell? b _ h)).trans h
theorem dt_ {p : Prop} [Decidable p] (h : decide p = true := by first | (with_reducible assumption) | assumption) : p := of_decide_eq_true h
theorem ra_ {p : Prop} (h : p := by first | rfl | (simp; done) | (simp [*]; done)) : p := h
theorem rz_ {p : Prop} {w w' : World} (h : p := by first | rfl | (simp; done) | (simp [*]; done)) (k : Drawn0 w w' := by repeat (first | exact Drawn0.refl _ | apply Drawn0.step)) : p ∧ Drawn0 w w' := ⟨h, k⟩
theorem dz_ {w w' : World} (k : Drawn0 w w' := by repeat (first | exact Drawn0.refl _ | apply Drawn0.step)) : Drawn0 w w' := k
theorem ga_ {p : Prop} (h : p := by ((try simp only [List.map_toArray, List.map_cons, List.map_nil]); first | done | rfl | (simp only [List.length_drop, List.length_take]; rfl))) : p := h
theorem eqB_ {α : Type} [BEq α] [LawfulBEq α] {a b : α} (h : a = b) : (a == b) = true ∧ (a != b) = false := ⟨beq_iff_eq.mpr h, bne_eq_false_iff_eq.mpr h⟩
theorem neB_ {α : Type} [BEq α] [LawfulBEq α] {a b : α} (h : ¬ a = b) : (a == b) = false ∧ (a != b) = true := ⟨beq_eq_false_iff_ne.mpr h, bne_iff_ne.mpr h⟩
def mk_ (n b : Nat) : Array Bool := ((List.range n).map fun i => b.testBit i).toArray
section
variable {P : Program} {ops : Array Oper} {md : Region.Mode} {Q : Exit → Act → World → Prop} {S : World → Prop} {ds : List Nat}
theorem pu_ (i : Nat) (N : Tmp) {n b : Nat} (b' : Nat) {T : Bool × List (List Nat × List Nat)} {oi : Oper} {v : Value} {fuel : Nat} {a a' : Act} {w : World} (hT : Aside0 (rtab md ops = T)) (h : wpAnyLast P md ops Q S ds fuel (mk_ n b') a' w)
    (hi : ops[i]? = some oi := by rfl) (hN : oi.dst = some N := by rfl) (hc : anyT T (mk_ n b).toList (mk_ n b').toList i = true := by kernel_rfl)
    (hQ : ∀ c a w, Q (.panic c) (a.put oi.dst v) w → Q (.panic c) a w := by exact (fun _ _ _ h => h))
    (hy : Yields P ops oi v a := by (refine Or.inl ⟨by rfl, ?_⟩; intro w'; go_simp; with_reducible rfl))
    (ha : a.put (some N) v = a' := by (simp only [Act.put, List.setIfInBounds_toArray, List.set_cons_zero, List.set_cons_succ, i64_w, i32_w]; rfl)) :
    wpAnyLast P md ops Q S ds (fuel + 1) (mk_ n b) a w :=
  pure_ (i := i) (N := some N) (mk_ n b') hi hN (any_of hT.out hc) hQ hy ha h
theorem pn_ (i : Nat) (N : Tmp) {n b : Nat} (b' : Nat) {T : Bool × List (List Nat × List Nat)} {oi : Oper} {fuel : Nat} {a a' : Act} {w : World} (hT : Aside0 (rtab md ops = T)) (h : wpAnyLast P md ops Q S ds fuel (mk_ n b') a' w)
    (hi : ops[i]? = some oi := by rfl) (hN : oi.dst = some N := by rfl) (hc : anyT T (mk_ n b).toList (mk_ n b').toList i = true := by kernel_rfl)
    (hQ : ∀ c a w, Q (.panic c) (a.put oi.dst undef) w → Q (.panic c) a w := by exact (fun _ _ _ h => h))
    (hy : Yields P ops oi undef a := by exact Or.inr ⟨by rfl, rfl⟩)
    (ha : a.put (some N) undef = a' := by (simp only [Act.put, List.setIfInBounds_toArray, List.set_cons_zero, List.set_cons_succ, i64_w, i32_w]; rfl)) :
    wpAnyLast P md ops Q S ds (fuel + 1) (mk_ n b) a w :=
  pure_ (i := i) (N := some N) (mk_ n b') hi hN (any_of hT.out hc) hQ hy ha h
theorem tk_ (i : Nat) (N : Tmp) {n b : Nat} (b' : Nat) {T : Bool × List (List Nat × List Nat)} {B : List Nat} {oi : Oper} {v : Value} {fuel : Nat} {a a' : Act} {w : World} (hT : Aside0 (rtab md ops = T)) (hB : Aside0 (waitsOk T.2 B = true)) (hS : S w)
    (h : wpAnyLast P md ops Q S ds fuel (mk_ n b') a' w)
    (hi : ops[i]? = some oi := by rfl) (hN : oi.dst = some N := by rfl) (hc : takeW T B ds (mk_ n b).toList (mk_ n b').toList i = true := by kernel_rfl)
    (hQ : ∀ c a w, Q (.panic c) (a.put oi.dst v) w → Q (.panic c) a w := by exact (fun _ _ _ h => h))
    (hy : YieldsIf P ops S oi v a := by (refine Or.inl ⟨by rfl, ?_⟩; intro w' hs; (repeat (obtain ⟨_, hs⟩ := hs)); go_simp; with_reducible rfl))
    (ha : a.put (some N) v = a' := by (simp only [Act.put, List.setIfInBounds_toArray, List.set_cons_zero, List.set_cons_succ, i64_w, i32_w]; rfl)) :
    wpAnyLast P md ops Q S ds (fuel + 1) (mk_ n b) a w :=
  take_ (i := i) (N := some N) (mk_ n b') hi hN (take_ofW hT.out hB.out hc) hQ hy hS ha h
theorem nm_ (N : Tmp) {fuel : Nat} {l : Array Bool} {a a0 a' : Act} {v : Value} {w : World} (h : wpAnyLast P md ops Q S ds fuel l a' w) (e : a = a0.put (some N) v := by rfl)
    (ha : a0.put (some N) v = a' := by (simp only [Act.put, List.setIfInBounds_toArray, List.set_cons_zero, List.set_cons_succ, i64_w, i32_w]; rfl)) : wpAnyLast P md ops Q S ds fuel l a w := norm_ (e.trans ha) h
end
end Go.Proofs.Ytconpnagoijacaa.P
end
section
namespace Go.Proofs.Ytconpnagoijacaa.P
open Go.RowKit Go.Proofs.YtconpnagoijacaaW.PrintWords Go.Proofs.YtconpnagoijacaaW.PrintLast Go.Proofs.YtconpnagoijacaaW.PrintMore
attribute [local go_sem] max2_int min2_int max_two min_two max_three min_three max_four min_four
set_option linter.unusedVariables false
set_option linter.unusedSimpArgs false
def errW : Option Int → Value
  | none => .nilIface
  | some c => .iface 0 (.int .i64 c)
theorem errW_none : errW none = .nilIface := rfl
theorem errW_some (c : Int) : errW (some c) = .iface 0 (.int .i64 c) := rfl
theorem pw_less_tri : ∀ a b : List UInt8, Op.bytesLess b a = !(Op.bytesLess a b || a == b)
  | [], [] => rfl
  | [], _ :: _ => rfl
  | _ :: _, [] => rfl
  | x :: a, y :: b => by
    have ih := pw_less_tri a b
    simp only [Op.bytesLess, List.cons_beq_cons]
    by_cases h : x = y
    · subst h; simp [ih]
    · have h2 : ¬ y = x := fun e => h e.symm
      have h3 : (y < x) ↔ ¬ (x < y) := by
        rw [UInt8.lt_iff_toNat_lt, UInt8.lt_iff_toNat_lt]
        have : x.toNat ≠ y.toNat := fun e => h (UInt8.toNat_inj.1 e)
        omega
      have e1 : (x == y) = false := beq_eq_false_iff_ne.mpr h
      have e2 : (y == x) = false := beq_eq_false_iff_ne.mpr h2
      have e3 : decide (y < x) = !decide (x < y) := by rw [Bool.eq_iff_iff, decide_eq_true_eq, h3]; simp
      simp only [e1, e2, e3, Bool.false_and, Bool.or_false]
@[go_sem] theorem binOp_string_gtr (t : TypeId) (a b : ByteArray) : binOp .gtr t (.string a) (.string b) = pure (.bool (Op.bytesLess b.toList a.toList)) := by simp [binOp, Op.stringOp, pw_less_tri a.toList b.toList]
@[go_sem] theorem binOp_string_leq (t : TypeId) (a b : ByteArray) : binOp .leq t (.string a) (.string b) = pure (.bool (!Op.bytesLess b.toList a.toList)) := by simp [binOp, Op.stringOp, pw_less_tri a.toList b.toList]
@[go_sem] theorem binOp_string_geq (t : TypeId) (a b : ByteArray) : binOp .geq t (.string a) (.string b) = pure (.bool (!Op.bytesLess a.toList b.toList)) := by simp [binOp, Op.stringOp]
theorem info3 : (Try.prog.info? 3).map (fun i => (i.zero, i.size, i.bytes)) = some (some (.int .i64 0), 1, 8) := by kernel_rfl
theorem info9 : (Try.prog.info? 9).map (fun i => (i.zero, i.size, i.bytes)) = some (some (.string ⟨#[]⟩), 1, 16) := by kernel_rfl
theorem info33 : (Try.prog.info? 33).map (fun i => (i.zero, i.size, i.bytes)) = some (some (.slice none 0 0), 1, 24) := by kernel_rfl
theorem info40 : (Try.prog.info? 40).map (fun i => (i.zero, i.size, i.bytes)) = some (some (.agg #[(.int .i64 0), (.int .i64 0), (.string ⟨#[]⟩)]), 3, 32) := by kernel_rfl
theorem info52 : (Try.prog.info? 52).map (fun i => (i.zero, i.size, i.bytes)) = some (some (.agg #[(.int .i64 0), (.string ⟨#[]⟩), (.int .i64 0), (.int .i64 0), (.string ⟨#[]⟩)]), 5, 56) := by kernel_rfl
theorem info62 : (Try.prog.info? 62).map (fun i => (i.zero, i.size, i.bytes)) = some (some (.agg #[(.string ⟨#[]⟩), (.int .i64 0), (.int .i64 0), (.string ⟨#[]⟩)]), 4, 48) := by kernel_rfl
structure S40 where
  f0 : Int
  f1 : Int
  f2 : ByteArray
def z40 : S40 := ⟨(0 : Int), (0 : Int), (⟨#[]⟩ : ByteArray)⟩
def k40 : Kd S40 := Kd.iso (Kd.pair (Kd.int .i64) (Kd.pair (Kd.int .i64) Kd.string)) (fun x : S40 => (x.f0, x.f1, x.f2))
theorem k40_open {w : World} {x : S40} {cs : List Value} (h : k40.K w x cs) : cs = [.int .i64 x.f0, .int .i64 x.f1, .string x.f2] := by
  obtain ⟨_, _, rfl, rfl, ⟨_, _, rfl, rfl, rfl⟩⟩ := h
  exact rfl
theorem k40_openM {w : World} {base : Nat} {ok : Nat → Prop} {x : S40} {cs : List Value} (h : k40.M w base ok x cs) : cs = [.int .i64 x.f0, .int .i64 x.f1, .string x.f2] := by
  obtain ⟨_, _, rfl, rfl, ⟨_, _, rfl, rfl, rfl⟩⟩ := h
  exact rfl
theorem k40_mk (w : World) (x : S40)  : k40.K w x [.int .i64 x.f0, .int .i64 x.f1, .string x.f2] := ⟨[.int .i64 x.f0], [.int .i64 x.f1, .string x.f2], rfl, rfl, ⟨[.int .i64 x.f1], [.string x.f2], rfl, rfl, rfl⟩⟩
theorem k40_mkM (w : World) (base : Nat) (ok : Nat → Prop) (x : S40)  : k40.M w base ok x [.int .i64 x.f0, .int .i64 x.f1, .string x.f2] := ⟨[.int .i64 x.f0], [.int .i64 x.f1, .string x.f2], rfl, rfl, ⟨[.int .i64 x.f1], [.string x.f2], rfl, rfl, rfl⟩⟩
theorem k40_mkF (W : World) (ok : Nat → Prop) (x : S40) : Kd.FK k40 W ok x [.int .i64 x.f0, .int .i64 x.f1, .string x.f2] := fun W2 _ => k40_mk W2 x
def rd_T40 (xs : List S40) (i : Int) : S40 := xs.getD i.toNat z40
theorem at_T40 {w : World} {A : Option Addr} {n : Nat} {xs : List S40} (h : Kd.C k40 w A n xs) (i : Int) (h0 : 0 ≤ i) (h1 : i < n) : ∃ ad , A = some ad ∧ w.cell? (ad.add (i.toNat * 3)) = some (.int .i64 (rd_T40 xs i).f0) ∧ w.cell? ⟨(ad.add (i.toNat * 3)).block, (ad.add (i.toNat * 3)).off + 1, none⟩ = some (.int .i64 (rd_T40 xs i).f1) ∧ w.cell? ⟨(ad.add (i.toNat * 3)).block, (ad.add (i.toNat * 3)).off + 2, none⟩ = some (.string (rd_T40 xs i).f2) := by
  obtain ⟨ad, c, e, _, hK, hc0⟩ := Kd.C_get h z40 i h0 h1
  have hc : ∀ j u, c[j]? = some u → w.cell? (ad.add (i.toNat * 3 + j)) = some u := hc0
  obtain rfl := k40_open hK
  exact ⟨ad, e, hc 0 _ rfl, by rw [← add_field _ _ 1 (by omega)]; exact hc 1 _ rfl, by rw [← add_field _ _ 2 (by omega)]; exact hc 2 _ rfl⟩
structure S52 where
  f0 : Int
  f1 : ByteArray
  f2 : S40
def z52 : S52 := ⟨(0 : Int), (⟨#[]⟩ : ByteArray), z40⟩
def k52 : Kd S52 := Kd.iso (Kd.pair (Kd.int .i64) (Kd.pair Kd.string k40)) (fun x : S52 => (x.f0, x.f1, x.f2))
theorem k52_open {w : World} {x : S52} {cs : List Value} (h : k52.K w x cs) : cs = [.int .i64 x.f0, .string x.f1, .int .i64 x.f2.f0, .int .i64 x.f2.f1, .string x.f2.f2] := by
  obtain ⟨_, _, rfl, rfl, ⟨_, _, rfl, rfl, s2⟩⟩ := h
  obtain rfl := k40_open s2
  exact rfl
theorem k52_openM {w : World} {base : Nat} {ok : Nat → Prop} {x : S52} {cs : List Value} (h : k52.M w base ok x cs) : cs = [.int .i64 x.f0, .string x.f1, .int .i64 x.f2.f0, .int .i64 x.f2.f1, .string x.f2.f2] := by
  obtain ⟨_, _, rfl, rfl, ⟨_, _, rfl, rfl, s2⟩⟩ := h
  obtain rfl := k40_openM s2
  exact rfl
theorem k52_mk (w : World) (x : S52)  : k52.K w x [.int .i64 x.f0, .string x.f1, .int .i64 x.f2.f0, .int .i64 x.f2.f1, .string x.f2.f2] := ⟨[.int .i64 x.f0], [.string x.f1, .int .i64 x.f2.f0, .int .i64 x.f2.f1, .string x.f2.f2], rfl, rfl, ⟨[.string x.f1], [.int .i64 x.f2.f0, .int .i64 x.f2.f1, .string x.f2.f2], rfl, rfl, (k40_mk w x.f2 )⟩⟩
theorem k52_mkM (w : World) (base : Nat) (ok : Nat → Prop) (x : S52)  : k52.M w base ok x [.int .i64 x.f0, .string x.f1, .int .i64 x.f2.f0, .int .i64 x.f2.f1, .string x.f2.f2] := ⟨[.int .i64 x.f0], [.string x.f1, .int .i64 x.f2.f0, .int .i64 x.f2.f1, .string x.f2.f2], rfl, rfl, ⟨[.string x.f1], [.int .i64 x.f2.f0, .int .i64 x.f2.f1, .string x.f2.f2], rfl, rfl, (k40_mkM w base ok x.f2 )⟩⟩
theorem k52_mkF (W : World) (ok : Nat → Prop) (x : S52) : Kd.FK k52 W ok x [.int .i64 x.f0, .string x.f1, .int .i64 x.f2.f0, .int .i64 x.f2.f1, .string x.f2.f2] := fun W2 _ => k52_mk W2 x
def rd_T52 (xs : List S52) (i : Int) : S52 := xs.getD i.toNat z52
theorem at_T52 {w : World} {A : Option Addr} {n : Nat} {xs : List S52} (h : Kd.C k52 w A n xs) (i : Int) (h0 : 0 ≤ i) (h1 : i < n) : ∃ ad , A = some ad ∧ w.cell? (ad.add (i.toNat * 5)) = some (.int .i64 (rd_T52 xs i).f0) ∧ w.cell? ⟨(ad.add (i.toNat * 5)).block, (ad.add (i.toNat * 5)).off + 1, none⟩ = some (.string (rd_T52 xs i).f1) ∧ w.cell? ⟨(ad.add (i.toNat * 5)).block, (ad.add (i.toNat * 5)).off + 2, none⟩ = some (.int .i64 (rd_T52 xs i).f2.f0) ∧ w.cell? ⟨(ad.add (i.toNat * 5)).block, (ad.add (i.toNat * 5)).off + 3, none⟩ = some (.int .i64 (rd_T52 xs i).f2.f1) ∧ w.cell? ⟨(ad.add (i.toNat * 5)).block, (ad.add (i.toNat * 5)).off + 4, none⟩ = some (.string (rd_T52 xs i).f2.f2) := by
  obtain ⟨ad, c, e, _, hK, hc0⟩ := Kd.C_get h z52 i h0 h1
  have hc : ∀ j u, c[j]? = some u → w.cell? (ad.add (i.toNat * 5 + j)) = some u := hc0
  obtain rfl := k52_open hK
  exact ⟨ad, e, hc 0 _ rfl, by rw [← add_field _ _ 1 (by omega)]; exact hc 1 _ rfl, by rw [← add_field _ _ 2 (by omega)]; exact hc 2 _ rfl, by rw [← add_field _ _ 3 (by omega)]; exact hc 3 _ rfl, by rw [← add_field _ _ 4 (by omega)]; exact hc 4 _ rfl⟩
structure S62 where
  f0 : ByteArray
  f1 : S40
def z62 : S62 := ⟨(⟨#[]⟩ : ByteArray), z40⟩
def k62 : Kd S62 := Kd.iso (Kd.pair Kd.string k40) (fun x : S62 => (x.f0, x.f1))
theorem k62_open {w : World} {x : S62} {cs : List Value} (h : k62.K w x cs) : cs = [.string x.f0, .int .i64 x.f1.f0, .int .i64 x.f1.f1, .string x.f1.f2] := by
  obtain ⟨_, _, rfl, rfl, s1⟩ := h
  obtain rfl := k40_open s1
  exact rfl
theorem k62_openM {w : World} {base : Nat} {ok : Nat → Prop} {x : S62} {cs : List Value} (h : k62.M w base ok x cs) : cs = [.string x.f0, .int .i64 x.f1.f0, .int .i64 x.f1.f1, .string x.f1.f2] := by
  obtain ⟨_, _, rfl, rfl, s1⟩ := h
  obtain rfl := k40_openM s1
  exact rfl
theorem k62_mk (w : World) (x : S62)  : k62.K w x [.string x.f0, .int .i64 x.f1.f0, .int .i64 x.f1.f1, .string x.f1.f2] := ⟨[.string x.f0], [.int .i64 x.f1.f0, .int .i64 x.f1.f1, .string x.f1.f2], rfl, rfl, (k40_mk w x.f1 )⟩
theorem k62_mkM (w : World) (base : Nat) (ok : Nat → Prop) (x : S62)  : k62.M w base ok x [.string x.f0, .int .i64 x.f1.f0, .int .i64 x.f1.f1, .string x.f1.f2] := ⟨[.string x.f0], [.int .i64 x.f1.f0, .int .i64 x.f1.f1, .string x.f1.f2], rfl, rfl, (k40_mkM w base ok x.f1 )⟩
theorem k62_mkF (W : World) (ok : Nat → Prop) (x : S62) : Kd.FK k62 W ok x [.string x.f0, .int .i64 x.f1.f0, .int .i64 x.f1.f1, .string x.f1.f2] := fun W2 _ => k62_mk W2 x
def rd_T62 (xs : List S62) (i : Int) : S62 := xs.getD i.toNat z62
theorem at_T62 {w : World} {A : Option Addr} {n : Nat} {xs : List S62} (h : Kd.C k62 w A n xs) (i : Int) (h0 : 0 ≤ i) (h1 : i < n) : ∃ ad , A = some ad ∧ w.cell? (ad.add (i.toNat * 4)) = some (.string (rd_T62 xs i).f0) ∧ w.cell? ⟨(ad.add (i.toNat * 4)).block, (ad.add (i.toNat * 4)).off + 1, none⟩ = some (.int .i64 (rd_T62 xs i).f1.f0) ∧ w.cell? ⟨(ad.add (i.toNat * 4)).block, (ad.add (i.toNat * 4)).off + 2, none⟩ = some (.int .i64 (rd_T62 xs i).f1.f1) ∧ w.cell? ⟨(ad.add (i.toNat * 4)).block, (ad.add (i.toNat * 4)).off + 3, none⟩ = some (.string (rd_T62 xs i).f1.f2) := by
  obtain ⟨ad, c, e, _, hK, hc0⟩ := Kd.C_get h z62 i h0 h1
  have hc : ∀ j u, c[j]? = some u → w.cell? (ad.add (i.toNat * 4 + j)) = some u := hc0
  obtain rfl := k62_open hK
  exact ⟨ad, e, hc 0 _ rfl, by rw [← add_field _ _ 1 (by omega)]; exact hc 1 _ rfl, by rw [← add_field _ _ 2 (by omega)]; exact hc 2 _ rfl, by rw [← add_field _ _ 3 (by omega)]; exact hc 3 _ rfl⟩
def rd_L5 (xs : List (List S52)) (i : Int) : (List S52) := xs.getD i.toNat ([] : List S52)
theorem at_L5 {w : World} {A : Option Addr} {n : Nat} {xs : List (List S52)} (h : Kd.C (Kd.slice 52 k52) w A n xs) (i : Int) (h0 : 0 ≤ i) (h1 : i < n) : ∃ ad A0 c0, A = some ad ∧ w.cell? (ad.add i.toNat) = some (.slice A0 (rd_L5 xs i).length c0) ∧ (rd_L5 xs i).length ≤ c0 ∧ k52.C w A0 (rd_L5 xs i).length (rd_L5 xs i) := by
  obtain ⟨ad, c, e, _, hK, hc0⟩ := Kd.C_get h ([] : List S52) i h0 h1
  have hc : ∀ j u, c[j]? = some u → w.cell? (ad.add (i.toNat * 1 + j)) = some u := hc0
  obtain ⟨A0, c0, rfl, l0, g0⟩ := hK
  exact ⟨ad, A0, c0, e, by have hq := hc 0 _ rfl; rwa [Nat.mul_one, Nat.add_zero] at hq, l0, g0⟩
end Go.Proofs.Ytconpnagoijacaa.P
end
section
namespace Go.Proofs.Ytconpnagoijacaa.P
open Go.RowKit Go.Proofs.YtconpnagoijacaaW.PrintWords Go.Proofs.YtconpnagoijacaaW.PrintLast Go.Proofs.YtconpnagoijacaaW.PrintMore
attribute [local go_sem] max2_int min2_int max_two min_two max_three min_three max_four min_four
set_option linter.unusedVariables false
set_option linter.unusedSimpArgs false
theorem eqA40 (d : Nat) (w : World) (x0 y0 : Int) (x1 y1 : Int) (x2 y2 : ByteArray) :
    (Op.equalIn (d + 2) 40 (.agg #[.int .i64 x0, .int .i64 x1, .string x2]) (.agg #[.int .i64 y0, .int .i64 y1, .string y2])).run Try.prog w = .ok (x0 == y0 && (x1 == y1 && (x2.toList == y2.toList))) w := by
  refine eqA_of Try.underlying40 (by kernel_rfl) ?_
  refine eqf_cons (by rfl) (by go_simp; rfl) (by go_simp; rfl) (by go_simp) ?_
  refine eqf_cons (by rfl) (by go_simp; rfl) (by go_simp; rfl) (by go_simp) ?_
  exact eqf_last (by rfl) (by go_simp; rfl) (by go_simp; rfl) (by go_simp)
end Go.Proofs.Ytconpnagoijacaa.P
end
section
namespace Go.Proofs.Ytconpnagoijacaa.P
open Go.RowKit Go.Proofs.YtconpnagoijacaaW.PrintWords Go.Proofs.YtconpnagoijacaaW.PrintLast Go.Proofs.YtconpnagoijacaaW.PrintMore
attribute [local go_sem] max2_int min2_int max_two min_two max_three min_three max_four min_four
set_option linter.unusedVariables false
set_option linter.unusedSimpArgs false
def num_in.f (a0 : Int) : Option (Bool) := if a0 ≥ (-4611686018427387904) then (some (decide (a0 ≤ 4611686018427387904))) else (some false)
set_option maxHeartbeats 8000000 in
set_option maxRecDepth 100000 in
theorem num_in.calls (a0 : Int) (r : Bool) (w : World) (h : num_in.f a0 = some r) :
    Calls Try.prog 35 #[.int .i64 a0] w fun e w' => e = .returned (.bool r) ∧ Drawn0 w w' := by
  have H : (if a0 ≥ (-4611686018427387904) then (some (decide (a0 ≤ 4611686018427387904))) else (some false)) = some r := h
  clear h
  by_cases c2 : a0 ≥ (-4611686018427387904)
  · rw [if_pos c2] at H
    have c2b0 : decide ((-4611686018427387904) ≤ a0) = true := decide_eq_true c2
    clear c2
    obtain rfl := Option.some.inj H
    go_enter Try.func35, Try.ntmps35
    go_wp2
    go_ret
    exact rz_
  · rw [if_neg c2] at H
    have c2b0 : decide ((-4611686018427387904) ≤ a0) = false := decide_eq_false c2
    clear c2
    obtain rfl := Option.some.inj H
    go_enter Try.func35, Try.ntmps35
    go_wp2
    go_ret
    exact rz_
end Go.Proofs.Ytconpnagoijacaa.P
end
section
namespace Go.Proofs.Ytconpnagoijacaa.P
open Go.RowKit Go.Proofs.YtconpnagoijacaaW.PrintWords Go.Proofs.YtconpnagoijacaaW.PrintLast Go.Proofs.YtconpnagoijacaaW.PrintMore
attribute [local go_sem] max2_int min2_int max_two min_two max_three min_three max_four min_four
set_option linter.unusedVariables false
set_option linter.unusedSimpArgs false
def num_add.f (a0 : Int) (a1 : Int) : Option (Int × Bool) := if a1 > 0 then (if a0 > (wrap64 (4611686018427387904 - a1)) then (some (0, false)) else (if a1 < 0 then (if a0 < (wrap64 ((-4611686018427387904) - a1)) then (some (0, false)) else (some (wrap64 (a0 + a1), true))) else (some (wrap64 (a0 + a1), true)))) else (if a1 < 0 then (if a0 < (wrap64 ((-4611686018427387904) - a1)) then (some (0, false)) else (some (wrap64 (a0 + a1), true))) else (some (wrap64 (a0 + a1), true)))
set_option maxHeartbeats 8000000 in
set_option maxRecDepth 100000 in
theorem num_add.calls (a0 : Int) (a1 : Int) (r1 : Int) (r2 : Bool) (w : World) (h : num_add.f a0 a1 = some (r1, r2)) :
    Calls Try.prog 36 #[.int .i64 a0, .int .i64 a1] w fun e w' => e = .returned (.tuple #[.int .i64 r1, .bool r2]) ∧ Drawn0 w w' := by
  have H : (if a1 > 0 then (if a0 > (wrap64 (4611686018427387904 - a1)) then (some (0, false)) else (if a1 < 0 then (if a0 < (wrap64 ((-4611686018427387904) - a1)) then (some (0, false)) else (some (wrap64 (a0 + a1), true))) else (some (wrap64 (a0 + a1), true)))) else (if a1 < 0 then (if a0 < (wrap64 ((-4611686018427387904) - a1)) then (some (0, false)) else (some (wrap64 (a0 + a1), true))) else (some (wrap64 (a0 + a1), true)))) = some (r1, r2) := h
  clear h
  by_cases c3 : a1 > 0
  · rw [if_pos c3] at H
    have c3b0 : decide (0 < a1) = true := decide_eq_true c3
    clear c3
    by_cases c4 : a0 > (wrap64 (4611686018427387904 - a1))
    · rw [if_pos c4] at H
      have c4b0 : decide ((wrap64 (4611686018427387904 - a1)) < a0) = true := decide_eq_true c4
      clear c4
      simp only [Option.some.injEq, Prod.mk.injEq] at H
      obtain ⟨rfl, rfl⟩ := H
      go_enter Try.func36, Try.ntmps36
      go_wp2
      go_ret2
      exact rz_
    · rw [if_neg c4] at H
      have c4b0 : decide ((wrap64 (4611686018427387904 - a1)) < a0) = false := decide_eq_false c4
      clear c4
      by_cases c5 : a1 < 0
      · rw [if_pos c5] at H
        have c5b0 : decide (a1 < 0) = true := decide_eq_true c5
        clear c5
        by_cases c6 : a0 < (wrap64 ((-4611686018427387904) - a1))
        · rw [if_pos c6] at H
          have c6b0 : decide (a0 < (wrap64 ((-4611686018427387904) - a1))) = true := decide_eq_true c6
          clear c6
          simp only [Option.some.injEq, Prod.mk.injEq] at H
          obtain ⟨rfl, rfl⟩ := H
          go_enter Try.func36, Try.ntmps36
          go_wp2
          go_ret2
          exact rz_
        · rw [if_neg c6] at H
          have c6b0 : decide (a0 < (wrap64 ((-4611686018427387904) - a1))) = false := decide_eq_false c6
          clear c6
          simp only [Option.some.injEq, Prod.mk.injEq] at H
          obtain ⟨rfl, rfl⟩ := H
          go_enter Try.func36, Try.ntmps36
          go_wp2
          go_ret2
          exact rz_
      · rw [if_neg c5] at H
        have c5b0 : decide (a1 < 0) = false := decide_eq_false c5
        clear c5
        simp only [Option.some.injEq, Prod.mk.injEq] at H
        obtain ⟨rfl, rfl⟩ := H
        go_enter Try.func36, Try.ntmps36
        go_wp2
        go_ret2
        exact rz_
  · rw [if_neg c3] at H
    have c3b0 : decide (0 < a1) = false := decide_eq_false c3
    clear c3
    by_cases c7 : a1 < 0
    · rw [if_pos c7] at H
      have c7b0 : decide (a1 < 0) = true := decide_eq_true c7
      clear c7
      by_cases c8 : a0 < (wrap64 ((-4611686018427387904) - a1))
      · rw [if_pos c8] at H
        have c8b0 : decide (a0 < (wrap64 ((-4611686018427387904) - a1))) = true := decide_eq_true c8
        clear c8
        simp only [Option.some.injEq, Prod.mk.injEq] at H
        obtain ⟨rfl, rfl⟩ := H
        go_enter Try.func36, Try.ntmps36
        go_wp2
        go_ret2
        exact rz_
      · rw [if_neg c8] at H
        have c8b0 : decide (a0 < (wrap64 ((-4611686018427387904) - a1))) = false := decide_eq_false c8
        clear c8
        simp only [Option.some.injEq, Prod.mk.injEq] at H
        obtain ⟨rfl, rfl⟩ := H
        go_enter Try.func36, Try.ntmps36
        go_wp2
        go_ret2
        exact rz_
    · rw [if_neg c7] at H
      have c7b0 : decide (a1 < 0) = false := decide_eq_false c7
      clear c7
      simp only [Option.some.injEq, Prod.mk.injEq] at H
      obtain ⟨rfl, rfl⟩ := H
      go_enter Try.func36, Try.ntmps36
      go_wp2
      go_ret2
      exact rz_
end Go.Proofs.Ytconpnagoijacaa.P
end
section
namespace Go.Proofs.Ytconpnagoijacaa.P
open Go.RowKit Go.Proofs.YtconpnagoijacaaW.PrintWords Go.Proofs.YtconpnagoijacaaW.PrintLast Go.Proofs.YtconpnagoijacaaW.PrintMore
attribute [local go_sem] max2_int min2_int max_two min_two max_three min_three max_four min_four
set_option linter.unusedVariables false
set_option linter.unusedSimpArgs false
def bits_Mul64.f (a0 : Int) (a1 : Int) : Option (Int × Int) := some (IntKind.u64.wrap ((IntKind.u64.wrap ((IntKind.u64.wrap ((a0 / 4294967296) * (a1 / 4294967296))) + ((IntKind.u64.wrap ((IntKind.u64.wrap ((a0 / 4294967296) * (Go.bits .and .u64 a1 4294967295))) + ((IntKind.u64.wrap ((Go.bits .and .u64 a0 4294967295) * (Go.bits .and .u64 a1 4294967295))) / 4294967296))) / 4294967296))) + ((IntKind.u64.wrap ((Go.bits .and .u64 (IntKind.u64.wrap ((IntKind.u64.wrap ((a0 / 4294967296) * (Go.bits .and .u64 a1 4294967295))) + ((IntKind.u64.wrap ((Go.bits .and .u64 a0 4294967295) * (Go.bits .and .u64 a1 4294967295))) / 4294967296))) 4294967295) + (IntKind.u64.wrap ((Go.bits .and .u64 a0 4294967295) * (a1 / 4294967296))))) / 4294967296)), IntKind.u64.wrap (a0 * a1))
set_option maxHeartbeats 8000000 in
set_option maxRecDepth 100000 in
theorem bits_Mul64.calls (a0 : Int) (a1 : Int) (r1 : Int) (r2 : Int) (w : World) (h : bits_Mul64.f a0 a1 = some (r1, r2)) :
    Calls Try.prog 49 #[.int .u64 a0, .int .u64 a1] w fun e w' => e = .returned (.tuple #[.int .u64 r1, .int .u64 r2]) ∧ Drawn0 w w' := by
  have H : (some (IntKind.u64.wrap ((IntKind.u64.wrap ((IntKind.u64.wrap ((a0 / 4294967296) * (a1 / 4294967296))) + ((IntKind.u64.wrap ((IntKind.u64.wrap ((a0 / 4294967296) * (Go.bits .and .u64 a1 4294967295))) + ((IntKind.u64.wrap ((Go.bits .and .u64 a0 4294967295) * (Go.bits .and .u64 a1 4294967295))) / 4294967296))) / 4294967296))) + ((IntKind.u64.wrap ((Go.bits .and .u64 (IntKind.u64.wrap ((IntKind.u64.wrap ((a0 / 4294967296) * (Go.bits .and .u64 a1 4294967295))) + ((IntKind.u64.wrap ((Go.bits .and .u64 a0 4294967295) * (Go.bits .and .u64 a1 4294967295))) / 4294967296))) 4294967295) + (IntKind.u64.wrap ((Go.bits .and .u64 a0 4294967295) * (a1 / 4294967296))))) / 4294967296)), IntKind.u64.wrap (a0 * a1))) = some (r1, r2) := h
  clear h
  simp only [Option.some.injEq, Prod.mk.injEq] at H
  obtain ⟨rfl, rfl⟩ := H
  go_enter Try.func49, Try.ntmps49
  go_wp2
  go_ret2
  exact rz_
end Go.Proofs.Ytconpnagoijacaa.P
end
section
namespace Go.Proofs.Ytconpnagoijacaa.P
open Go.RowKit Go.Proofs.YtconpnagoijacaaW.PrintWords Go.Proofs.YtconpnagoijacaaW.PrintLast Go.Proofs.YtconpnagoijacaaW.PrintMore
attribute [local go_sem] max2_int min2_int max_two min_two max_three min_three max_four min_four
set_option linter.unusedVariables false
set_option linter.unusedSimpArgs false
def num_size.f (a0 : Int) : Option (Int) := if a0 < 0 then (some (IntKind.u64.wrap (wrap64 (-a0)))) else (some (IntKind.u64.wrap (a0)))
set_option maxHeartbeats 8000000 in
set_option maxRecDepth 100000 in
theorem num_size.calls (a0 : Int) (r : Int) (w : World) (h : num_size.f a0 = some r) :
    Calls Try.prog 50 #[.int .i64 a0] w fun e w' => e = .returned (.int .u64 r) ∧ Drawn0 w w' := by
  have H : (if a0 < 0 then (some (IntKind.u64.wrap (wrap64 (-a0)))) else (some (IntKind.u64.wrap (a0)))) = some r := h
  clear h
  by_cases c2 : a0 < 0
  · rw [if_pos c2] at H
    have c2b0 : decide (a0 < 0) = true := decide_eq_true c2
    clear c2
    obtain rfl := Option.some.inj H
    go_enter Try.func50, Try.ntmps50
    go_wp2
    go_ret
    exact rz_
  · rw [if_neg c2] at H
    have c2b0 : decide (a0 < 0) = false := decide_eq_false c2
    clear c2
    obtain rfl := Option.some.inj H
    go_enter Try.func50, Try.ntmps50
    go_wp2
    go_ret
    exact rz_
end Go.Proofs.Ytconpnagoijacaa.P
end
section
namespace Go.Proofs.Ytconpnagoijacaa.P
open Go.RowKit Go.Proofs.YtconpnagoijacaaW.PrintWords Go.Proofs.YtconpnagoijacaaW.PrintLast Go.Proofs.YtconpnagoijacaaW.PrintMore
attribute [local go_sem] max2_int min2_int max_two min_two max_three min_three max_four min_four
set_option linter.unusedVariables false
set_option linter.unusedSimpArgs false
def num_mul.j0 : Nat → Int → Int → Int → Bool → Option (Int × Bool)
  | 0, _, _, _, _ => none
  | k + 1, x0, x1, x7, x21 => if x21 = true then (some (0, false)) else (if ((decide (x0 < 0)) != (decide (x1 < 0))) = true then (some (wrap64 (-(wrap64 (x7))), true)) else (some (wrap64 (x7), true)))
def num_mul.f (k : Nat) (a0 : Int) (a1 : Int) : Option (Int × Bool) := (num_size.f a0).bind fun t101 => ((num_size.f a1).bind fun t102 => ((bits_Mul64.f t101 t102).bind fun bt103 => (if bt103.1 > 0 then (num_mul.j0 k a0 a1 bt103.2 true) else (num_mul.j0 k a0 a1 bt103.2 (decide (bt103.2 > 4611686018427387904))))))
theorem num_mul.mono_l : ∀ k, (∀ y0 y1 y2 y3, LeO (num_mul.j0 k y0 y1 y2 y3) (num_mul.j0 (k + 1) y0 y1 y2 y3))
  | 0 => fun _ _ _ _ r h => by simp [num_mul.j0] at h
  | k + 1 => by
    have ih0 := num_mul.mono_l k
    · intro y0 y1 y2 y3
      unfold num_mul.j0
      repeat' first
      | (with_reducible exact ih0 _ _ _ _)
      | (with_reducible exact LeO.refl _)
      | (with_reducible exact LeO.none _)
      | (with_reducible refine LeO.ite ?_ ?_)
      | (with_reducible refine LeO.bind ?_ (fun _ => ?_))
      | exact ih0 _ _ _ _
      | exact LeO.none _
      | refine LeO.ite ?_ ?_
      | refine LeO.bind ?_ (fun _ => ?_)
theorem num_mul.mono : ∀ a0 a1 k, LeO (num_mul.f k a0 a1) (num_mul.f (k + 1) a0 a1) := by
  intro a0 a1 k
  have ih0 := num_mul.mono_l k
  unfold num_mul.f
  repeat' first
      | (with_reducible exact ih0 _ _ _ _)
      | (with_reducible exact LeO.refl _)
      | (with_reducible exact LeO.none _)
      | (with_reducible refine LeO.ite ?_ ?_)
      | (with_reducible refine LeO.bind ?_ (fun _ => ?_))
      | exact ih0 _ _ _ _
      | exact LeO.none _
      | refine LeO.ite ?_ ?_
      | refine LeO.bind ?_ (fun _ => ?_)
set_option maxHeartbeats 8000000 in
set_option maxRecDepth 100000 in
theorem num_mul.calls (k : Nat) (a0 : Int) (a1 : Int) (r1 : Int) (r2 : Bool) (w : World) (h : num_mul.f k a0 a1 = some (r1, r2)) :
    Calls Try.prog 37 #[.int .i64 a0, .int .i64 a1] w fun e w' => e = .returned (.tuple #[.int .i64 r1, .bool r2]) ∧ Drawn0 w w' := by
  have H : ((num_size.f a0).bind fun t101 => ((num_size.f a1).bind fun t102 => ((bits_Mul64.f t101 t102).bind fun bt103 => (if bt103.1 > 0 then (num_mul.j0 k a0 a1 bt103.2 true) else (num_mul.j0 k a0 a1 bt103.2 (decide (bt103.2 > 4611686018427387904))))))) = some (r1, r2) := h
  clear h
  replace H := Option.bind_eq_some_iff.mp H
  obtain ⟨t101, A30, H⟩ := H
  replace H : ((num_size.f a1).bind fun t102 => ((bits_Mul64.f t101 t102).bind fun bt103 => (if bt103.1 > 0 then (num_mul.j0 k a0 a1 bt103.2 true) else (num_mul.j0 k a0 a1 bt103.2 (decide (bt103.2 > 4611686018427387904)))))) = some (r1, r2) := H
  have A3 := Aside0.mk A30
  clear A30
  replace H := Option.bind_eq_some_iff.mp H
  obtain ⟨t102, A40, H⟩ := H
  replace H : ((bits_Mul64.f t101 t102).bind fun bt103 => (if bt103.1 > 0 then (num_mul.j0 k a0 a1 bt103.2 true) else (num_mul.j0 k a0 a1 bt103.2 (decide (bt103.2 > 4611686018427387904))))) = some (r1, r2) := H
  have A4 := Aside0.mk A40
  clear A40
  replace H := Option.bind_eq_some_iff.mp H
  obtain ⟨⟨t103, t104⟩, A50, H⟩ := H
  replace H : (if t103 > 0 then (num_mul.j0 k a0 a1 t104 true) else (num_mul.j0 k a0 a1 t104 (decide (t104 > 4611686018427387904)))) = some (r1, r2) := H
  have A5 := Aside0.mk A50
  clear A50
  have HC6 := Aside0.mk H
  clear H
  go_enter Try.func37, Try.ntmps37
  go_upto_region 2 with (first | ((with_reducible refine gate_callee (f := 50) rfl ?_); refine goesL_ (some 10) rfl rfl Try.func50 (by kernel_rfl) rfl #[.int .i64 a0] rfl ga_ ?_; (with_reducible refine (num_size.calls a0 t101 _ A3.out).mono ?_); rintro e w' ⟨rfl, ⟨nd, rfl⟩⟩; refine ⟨_, rfl, ?_⟩) | ((with_reducible refine gate_callee (f := 50) rfl ?_); refine goesL_ (some 12) rfl rfl Try.func50 (by kernel_rfl) rfl #[.int .i64 a1] rfl ga_ ?_; (with_reducible refine (num_size.calls a1 t102 _ A4.out).mono ?_); rintro e w' ⟨rfl, ⟨nd, rfl⟩⟩; refine ⟨_, rfl, ?_⟩) | ((with_reducible refine gate_callee (f := 49) rfl ?_); refine goesL_ (some 13) rfl rfl Try.func49 (by kernel_rfl) rfl #[.int .u64 t101, .int .u64 t102] rfl ga_ ?_; (with_reducible refine (bits_Mul64.calls t101 t102 t103 t104 _ A5.out).mono ?_); rintro e w' ⟨rfl, ⟨nd, rfl⟩⟩; refine ⟨_, rfl, ?_⟩))
  (try simp only [Act.put, List.setIfInBounds_toArray, List.set_cons_zero, List.set_cons_succ])
  go_cut [21] (fun v21 wc => ∃ (kq : Nat) (x21_5 : Bool), v21 = .bool x21_5 ∧ Aside0 (num_mul.j0 kq a0 a1 t104 x21_5 = some (r1, r2)) ∧ Aside0 (kq ≤ k) ∧ Drawn0 w wc)
  case first =>
    have H := HC6.out
    clear HC6
    by_cases c7 : t103 > 0
    · rw [if_pos c7] at H
      have c7b0 : decide (0 < t103) = true := decide_eq_true c7
      clear c7
      (first | rw [c7b0] | (simp only [i64_w, i32_w]; rw [c7b0]) | skip)
      have H' := Aside0.mk H
      clear H
      go_wp2
      go_meet
      case rel => exact ⟨_, (true), ra_, H', ⟨by first | omega | exact Nat.le_refl _⟩, dz_⟩
    · rw [if_neg c7] at H
      have c7b0 : decide (0 < t103) = false := decide_eq_false c7
      clear c7
      (first | rw [c7b0] | (simp only [i64_w, i32_w]; rw [c7b0]) | skip)
      have H' := Aside0.mk H
      clear H
      go_wp2
      go_meet
      case rel => exact ⟨_, (decide (t104 > 4611686018427387904)), ra_, H', ⟨by first | omega | exact Nat.le_refl _⟩, dz_⟩
  case rest =>
    clear HC6
    try clear p2
    try clear c3
    try clear c4
    try clear c5
    try clear c7
    try clear c7b0
    obtain ⟨kq, x21_5, rfl, HA, HJ5, ⟨mc5, rfl⟩⟩ := hcut
    cases kq with
    | zero => exact absurd HA.out (by simp [num_mul.j0])
    | succ kj5 =>
      have H := HA.out
      clear HA
      simp only [num_mul.j0] at H
      by_cases c8 : x21_5 = true
      · subst c8
        have H1 : (some (0, false)) = some (r1, r2) := by rw [if_pos rfl] at H; exact H
        clear H
        have H := H1
        clear H1
        simp only [Option.some.injEq, Prod.mk.injEq] at H
        obtain ⟨rfl, rfl⟩ := H
        go_wp2
        go_ret2
        exact rz_
      · replace c8 := Bool.eq_false_iff.mpr c8
        subst c8
        have H1 : (if ((decide (a0 < 0)) != (decide (a1 < 0))) = true then (some (wrap64 (-(wrap64 (t104))), true)) else (some (wrap64 (t104), true))) = some (r1, r2) := by rw [if_neg (show ¬ (false = true) by decide)] at H; exact H
        clear H
        have H := H1
        clear H1
        by_cases c9 : ((decide (a0 < 0)) != (decide (a1 < 0))) = true
        · rw [if_pos c9] at H
          have c9b0 : ((decide (a0 < 0)) != (decide (a1 < 0))) = true := c9
          (try (have c9b1 : decide ((decide (a0 < 0)) = (decide (a1 < 0))) = false := by simpa using c9))
          (try (have c9b2 : ((decide (a0 < 0)) == (decide (a1 < 0))) = false := by simpa using c9))
          (try (have c9b3 : ¬ ((decide (a0 < 0)) = (decide (a1 < 0))) := by simpa using c9))
          clear c9
          simp only [Option.some.injEq, Prod.mk.injEq] at H
          obtain ⟨rfl, rfl⟩ := H
          go_wp2
          go_ret2
          exact rz_
        · rw [if_neg c9] at H
          have c9b0 : ((decide (a0 < 0)) != (decide (a1 < 0))) = false := by simpa using c9
          (try (have c9b1 : decide ((decide (a0 < 0)) = (decide (a1 < 0))) = true := by simpa using c9))
          (try (have c9b2 : ((decide (a0 < 0)) == (decide (a1 < 0))) = true := by simpa using c9))
          clear c9
          simp only [Option.some.injEq, Prod.mk.injEq] at H
          obtain ⟨rfl, rfl⟩ := H
          go_wp2
          go_ret2
          exact rz_
end Go.Proofs.Ytconpnagoijacaa.P
end
section
namespace Go.Proofs.Ytconpnagoijacaa.P
open Go.RowKit Go.Proofs.YtconpnagoijacaaW.PrintWords Go.Proofs.YtconpnagoijacaaW.PrintLast Go.Proofs.YtconpnagoijacaaW.PrintMore
attribute [local go_sem] max2_int min2_int max_two min_two max_three min_three max_four min_four
set_option linter.unusedVariables false
set_option linter.unusedSimpArgs false
mutual
def num_Do.j0 : Nat → Int → Int → Int → Bool → Option (Int × Int)
  | 0, _, _, _, _ => none
  | k + 1, x0, x1, x2, x19 => if x19 = true then (some (0, 3)) else ((num_in.f x1).bind fun t105 => (if t105 = true then ((num_in.f x2).bind fun t106 => (num_Do.j1 k x0 x1 x2 (!t106))) else (num_Do.j1 k x0 x1 x2 true)))
def num_Do.j1 : Nat → Int → Int → Int → Bool → Option (Int × Int)
  | 0, _, _, _, _ => none
  | k + 1, x0, x1, x2, x27 => if x27 = true then (some (0, 4)) else (if x0 = 3 then ((num_add.f x1 x2).bind fun bt107 => (if bt107.2 = true then (some (bt107.1, 0)) else (some (0, 4)))) else (if x0 = 4 then ((num_add.f x1 (wrap64 (-x2))).bind fun bt109 => (if bt109.2 = true then (some (bt109.1, 0)) else (some (0, 4)))) else ((num_mul.f k x1 x2).bind fun bt111 => (if bt111.2 = true then (some (bt111.1, 0)) else (some (0, 4))))))
end
def num_Do.f (k : Nat) (a0 : Int) (a1 : Int) (a2 : Int) : Option (Int × Int) := if a0 = 3 then (num_Do.j0 k a0 a1 a2 false) else (if a0 = 4 then (num_Do.j0 k a0 a1 a2 false) else (num_Do.j0 k a0 a1 a2 (a0 != 5)))
theorem num_Do.mono_l : ∀ k, (∀ y0 y1 y2 y3, LeO (num_Do.j0 k y0 y1 y2 y3) (num_Do.j0 (k + 1) y0 y1 y2 y3)) ∧ (∀ y0 y1 y2 y3, LeO (num_Do.j1 k y0 y1 y2 y3) (num_Do.j1 (k + 1) y0 y1 y2 y3))
  | 0 => ⟨fun _ _ _ _ r h => by simp [num_Do.j0] at h, fun _ _ _ _ r h => by simp [num_Do.j1] at h⟩
  | k + 1 => by
    obtain ⟨ih0, ih1⟩ := num_Do.mono_l k
    refine ⟨?_, ?_⟩
    · intro y0 y1 y2 y3
      unfold num_Do.j0
      repeat' first
      | (with_reducible exact ih0 _ _ _ _)
      | (with_reducible exact ih1 _ _ _ _)
      | (with_reducible exact num_mul.mono _ _ _)
      | (with_reducible exact LeO.refl _)
      | (with_reducible exact LeO.none _)
      | (with_reducible refine LeO.ite ?_ ?_)
      | (with_reducible refine LeO.bind ?_ (fun _ => ?_))
      | exact ih0 _ _ _ _
      | exact ih1 _ _ _ _
      | exact num_mul.mono _ _ _
      | exact LeO.none _
      | refine LeO.ite ?_ ?_
      | refine LeO.bind ?_ (fun _ => ?_)
    · intro y0 y1 y2 y3
      unfold num_Do.j1
      repeat' first
      | (with_reducible exact ih0 _ _ _ _)
      | (with_reducible exact ih1 _ _ _ _)
      | (with_reducible exact num_mul.mono _ _ _)
      | (with_reducible exact LeO.refl _)
      | (with_reducible exact LeO.none _)
      | (with_reducible refine LeO.ite ?_ ?_)
      | (with_reducible refine LeO.bind ?_ (fun _ => ?_))
      | exact ih0 _ _ _ _
      | exact ih1 _ _ _ _
      | exact num_mul.mono _ _ _
      | exact LeO.none _
      | refine LeO.ite ?_ ?_
      | refine LeO.bind ?_ (fun _ => ?_)
theorem num_Do.mono : ∀ a0 a1 a2 k, LeO (num_Do.f k a0 a1 a2) (num_Do.f (k + 1) a0 a1 a2) := by
  intro a0 a1 a2 k
  obtain ⟨ih0, ih1⟩ := num_Do.mono_l k
  unfold num_Do.f
  repeat' first
      | (with_reducible exact ih0 _ _ _ _)
      | (with_reducible exact ih1 _ _ _ _)
      | (with_reducible exact num_mul.mono _ _ _)
      | (with_reducible exact LeO.refl _)
      | (with_reducible exact LeO.none _)
      | (with_reducible refine LeO.ite ?_ ?_)
      | (with_reducible refine LeO.bind ?_ (fun _ => ?_))
      | exact ih0 _ _ _ _
      | exact ih1 _ _ _ _
      | exact num_mul.mono _ _ _
      | exact LeO.none _
      | refine LeO.ite ?_ ?_
      | refine LeO.bind ?_ (fun _ => ?_)
set_option maxHeartbeats 8000000 in
set_option maxRecDepth 100000 in
theorem num_Do.calls (k : Nat) (a0 : Int) (a1 : Int) (a2 : Int) (r1 : Int) (r2 : Int) (w : World) (h : num_Do.f k a0 a1 a2 = some (r1, r2)) :
    Calls Try.prog 13 #[.int .i64 a0, .int .i64 a1, .int .i64 a2] w fun e w' => e = .returned (.tuple #[.int .i64 r1, .int .i64 r2]) ∧ Drawn0 w w' := by
  have H : (if a0 = 3 then (num_Do.j0 k a0 a1 a2 false) else (if a0 = 4 then (num_Do.j0 k a0 a1 a2 false) else (num_Do.j0 k a0 a1 a2 (a0 != 5)))) = some (r1, r2) := h
  clear h
  have HC4 := Aside0.mk H
  clear H
  go_enter Try.func13, Try.ntmps13
  go_upto_region 1 with (fail)
  go_cut [19] (fun v19 wc => ∃ (kq : Nat) (x19_3 : Bool), v19 = .bool x19_3 ∧ Aside0 (num_Do.j0 kq a0 a1 a2 x19_3 = some (r1, r2)) ∧ Aside0 (kq ≤ k) ∧ Drawn0 w wc)
  case first =>
    have H := HC4.out
    clear HC4
    by_cases c5 : a0 = 3
    · rw [if_pos c5] at H
      obtain ⟨c5b0, c5b1⟩ := eqB_ c5
      clear c5
      (first | rw [c5b0] | (simp only [i64_w, i32_w]; rw [c5b0]) | skip)
      have H' := Aside0.mk H
      clear H
      go_wp2
      go_meet
      case rel => exact ⟨_, (false), ra_, H', ⟨by first | omega | exact Nat.le_refl _⟩, dz_⟩
    · rw [if_neg c5] at H
      obtain ⟨c5b0, c5b1⟩ := neB_ c5
      (first | rw [c5b0] | (simp only [i64_w, i32_w]; rw [c5b0]) | skip)
      by_cases c6 : a0 = 4
      · rw [if_pos c6] at H
        obtain ⟨c6b0, c6b1⟩ := eqB_ c6
        clear c6
        have H' := Aside0.mk H
        clear H
        go_wp2
        go_meet
        case rel => exact ⟨_, (false), ra_, H', ⟨by first | omega | exact Nat.le_refl _⟩, dz_⟩
      · rw [if_neg c6] at H
        obtain ⟨c6b0, c6b1⟩ := neB_ c6
        have H' := Aside0.mk H
        clear H
        go_wp2
        go_meet
        case rel => exact ⟨_, ((a0 != 5)), ra_, H', ⟨by first | omega | exact Nat.le_refl _⟩, dz_⟩
  case rest =>
    clear HC4
    try clear c1
    try clear p2
    try clear c5
    try clear c5b0
    try clear c5b1
    try clear c6
    try clear c6b0
    try clear c6b1
    obtain ⟨kq, x19_3, rfl, HA, HJ3, ⟨mc3, rfl⟩⟩ := hcut
    cases kq with
    | zero => exact absurd HA.out (by simp [num_Do.j0])
    | succ kj3 =>
      have H := HA.out
      clear HA
      simp only [num_Do.j0] at H
      by_cases c7 : x19_3 = true
      · subst c7
        have H1 : (some (0, 3)) = some (r1, r2) := by rw [if_pos rfl] at H; exact H
        clear H
        have H := H1
        clear H1
        simp only [Option.some.injEq, Prod.mk.injEq] at H
        obtain ⟨rfl, rfl⟩ := H
        go_wp2
        go_ret2
        exact rz_
      · replace c7 := Bool.eq_false_iff.mpr c7
        subst c7
        have H1 : ((num_in.f a1).bind fun t105 => (if t105 = true then ((num_in.f a2).bind fun t106 => (num_Do.j1 kj3 a0 a1 a2 (!t106))) else (num_Do.j1 kj3 a0 a1 a2 true))) = some (r1, r2) := by rw [if_neg (show ¬ (false = true) by decide)] at H; exact H
        clear H
        have H := H1
        clear H1
        have HC8 := Aside0.mk H
        clear H
        go_upto_region 3 with (fail)
        go_cut [27] (fun v27 wc => ∃ (kq : Nat) (x27_7 : Bool), v27 = .bool x27_7 ∧ Aside0 (num_Do.j1 kq a0 a1 a2 x27_7 = some (r1, r2)) ∧ Aside0 (kq ≤ kj3) ∧ Drawn0 w wc)
        case first =>
          have H := HC8.out
          clear HC8
          replace H := Option.bind_eq_some_iff.mp H
          obtain ⟨t105, A90, H⟩ := H
          replace H : (if t105 = true then ((num_in.f a2).bind fun t106 => (num_Do.j1 kj3 a0 a1 a2 (!t106))) else (num_Do.j1 kj3 a0 a1 a2 true)) = some (r1, r2) := H
          have A9 := Aside0.mk A90
          clear A90
          by_cases c10 : t105 = true
          · subst c10
            have H1 : ((num_in.f a2).bind fun t106 => (num_Do.j1 kj3 a0 a1 a2 (!t106))) = some (r1, r2) := by rw [if_pos rfl] at H; exact H
            clear H
            have H := H1
            clear H1
            replace H := Option.bind_eq_some_iff.mp H
            obtain ⟨t106, A110, H⟩ := H
            replace H : (num_Do.j1 kj3 a0 a1 a2 (!t106)) = some (r1, r2) := H
            have A11 := Aside0.mk A110
            clear A110
            have H' := Aside0.mk H
            clear H
            go_wp2_with (first | ((with_reducible refine gate_callee (f := 35) rfl ?_); refine goesL_ (some 21) rfl rfl Try.func35 (by kernel_rfl) rfl #[.int .i64 a1] rfl ga_ ?_; (with_reducible refine (num_in.calls a1 true _ A9.out).mono ?_); rintro e w' ⟨rfl, ⟨nd, rfl⟩⟩; refine ⟨_, rfl, ?_⟩) | (go_at_call 35; (with_reducible refine (num_in.calls a2 t106 _ A11.out).mono ?_); rintro e w' ⟨rfl, ⟨nd, rfl⟩⟩))
            go_meet
            case rel => exact ⟨_, (!t106), ra_, H', ⟨by have := HJ3.out; first | omega | exact Nat.le_refl _⟩, dz_⟩
          · replace c10 := Bool.eq_false_iff.mpr c10
            subst c10
            have H1 : (num_Do.j1 kj3 a0 a1 a2 true) = some (r1, r2) := by rw [if_neg (show ¬ (false = true) by decide)] at H; exact H
            clear H
            have H := H1
            clear H1
            have H' := Aside0.mk H
            clear H
            go_wp2_with (first | ((with_reducible refine gate_callee (f := 35) rfl ?_); refine goesL_ (some 21) rfl rfl Try.func35 (by kernel_rfl) rfl #[.int .i64 a1] rfl ga_ ?_; (with_reducible refine (num_in.calls a1 false _ A9.out).mono ?_); rintro e w' ⟨rfl, ⟨nd, rfl⟩⟩; refine ⟨_, rfl, ?_⟩))
            go_meet
            case rel => exact ⟨_, (true), ra_, H', ⟨by have := HJ3.out; first | omega | exact Nat.le_refl _⟩, dz_⟩
        case rest =>
          clear HC8
          try clear c1
          try clear p2
          try clear c3
          try clear c5
          try clear c5b0
          try clear c5b1
          try clear c6
          try clear c6b0
          try clear c6b1
          try clear c7
          try clear c10
          try clear p2
          obtain ⟨kq, x27_7, rfl, HA, HJ7, ⟨mc7, rfl⟩⟩ := hcut
          cases kq with
          | zero => exact absurd HA.out (by simp [num_Do.j1])
          | succ kj7 =>
            have H := HA.out
            clear HA
            simp only [num_Do.j1] at H
            by_cases c12 : x27_7 = true
            · subst c12
              have H1 : (some (0, 4)) = some (r1, r2) := by rw [if_pos rfl] at H; exact H
              clear H
              have H := H1
              clear H1
              simp only [Option.some.injEq, Prod.mk.injEq] at H
              obtain ⟨rfl, rfl⟩ := H
              go_wp2
              go_ret2
              exact rz_
            · replace c12 := Bool.eq_false_iff.mpr c12
              subst c12
              have H1 : (if a0 = 3 then ((num_add.f a1 a2).bind fun bt107 => (if bt107.2 = true then (some (bt107.1, 0)) else (some (0, 4)))) else (if a0 = 4 then ((num_add.f a1 (wrap64 (-a2))).bind fun bt109 => (if bt109.2 = true then (some (bt109.1, 0)) else (some (0, 4)))) else ((num_mul.f kj7 a1 a2).bind fun bt111 => (if bt111.2 = true then (some (bt111.1, 0)) else (some (0, 4)))))) = some (r1, r2) := by rw [if_neg (show ¬ (false = true) by decide)] at H; exact H
              clear H
              have H := H1
              clear H1
              by_cases c13 : a0 = 3
              · rw [if_pos c13] at H
                obtain ⟨c13b0, c13b1⟩ := eqB_ c13
                clear c13
                replace H := Option.bind_eq_some_iff.mp H
                obtain ⟨⟨t107, t108⟩, A140, H⟩ := H
                replace H : (if t108 = true then (some (t107, 0)) else (some (0, 4))) = some (r1, r2) := H
                have A14 := Aside0.mk A140
                clear A140
                by_cases c15 : t108 = true
                · subst c15
                  have H1 : (some (t107, 0)) = some (r1, r2) := by rw [if_pos rfl] at H; exact H
                  clear H
                  have H := H1
                  clear H1
                  simp only [Option.some.injEq, Prod.mk.injEq] at H
                  obtain ⟨rfl, rfl⟩ := H
                  go_wp2_with (first | ((with_reducible refine gate_callee (f := 36) rfl ?_); refine goesL_ (some 40) rfl rfl Try.func36 (by kernel_rfl) rfl #[.int .i64 a1, .int .i64 a2] rfl ga_ ?_; (with_reducible refine (num_add.calls a1 a2 t107 true _ A14.out).mono ?_); rintro e w' ⟨rfl, ⟨nd, rfl⟩⟩; refine ⟨_, rfl, ?_⟩))
                  go_ret2
                  exact rz_
                · replace c15 := Bool.eq_false_iff.mpr c15
                  subst c15
                  have H1 : (some (0, 4)) = some (r1, r2) := by rw [if_neg (show ¬ (false = true) by decide)] at H; exact H
                  clear H
                  have H := H1
                  clear H1
                  simp only [Option.some.injEq, Prod.mk.injEq] at H
                  obtain ⟨rfl, rfl⟩ := H
                  go_wp2_with (first | ((with_reducible refine gate_callee (f := 36) rfl ?_); refine goesL_ (some 40) rfl rfl Try.func36 (by kernel_rfl) rfl #[.int .i64 a1, .int .i64 a2] rfl ga_ ?_; (with_reducible refine (num_add.calls a1 a2 t107 false _ A14.out).mono ?_); rintro e w' ⟨rfl, ⟨nd, rfl⟩⟩; refine ⟨_, rfl, ?_⟩))
                  go_ret2
                  exact rz_
              · rw [if_neg c13] at H
                obtain ⟨c13b0, c13b1⟩ := neB_ c13
                by_cases c16 : a0 = 4
                · rw [if_pos c16] at H
                  obtain ⟨c16b0, c16b1⟩ := eqB_ c16
                  clear c16
                  replace H := Option.bind_eq_some_iff.mp H
                  obtain ⟨⟨t109, t110⟩, A170, H⟩ := H
                  replace H : (if t110 = true then (some (t109, 0)) else (some (0, 4))) = some (r1, r2) := H
                  have A17 := Aside0.mk A170
                  clear A170
                  by_cases c18 : t110 = true
                  · subst c18
                    have H1 : (some (t109, 0)) = some (r1, r2) := by rw [if_pos rfl] at H; exact H
                    clear H
                    have H := H1
                    clear H1
                    simp only [Option.some.injEq, Prod.mk.injEq] at H
                    obtain ⟨rfl, rfl⟩ := H
                    go_wp2_with (first | ((with_reducible refine gate_callee (f := 36) rfl ?_); refine goesL_ (some 49) rfl rfl Try.func36 (by kernel_rfl) rfl #[.int .i64 a1, .int .i64 (wrap64 (-a2))] rfl ga_ ?_; (with_reducible refine (num_add.calls a1 (wrap64 (-a2)) t109 true _ A17.out).mono ?_); rintro e w' ⟨rfl, ⟨nd, rfl⟩⟩; refine ⟨_, rfl, ?_⟩))
                    go_ret2
                    exact rz_
                  · replace c18 := Bool.eq_false_iff.mpr c18
                    subst c18
                    have H1 : (some (0, 4)) = some (r1, r2) := by rw [if_neg (show ¬ (false = true) by decide)] at H; exact H
                    clear H
                    have H := H1
                    clear H1
                    simp only [Option.some.injEq, Prod.mk.injEq] at H
                    obtain ⟨rfl, rfl⟩ := H
                    go_wp2_with (first | ((with_reducible refine gate_callee (f := 36) rfl ?_); refine goesL_ (some 49) rfl rfl Try.func36 (by kernel_rfl) rfl #[.int .i64 a1, .int .i64 (wrap64 (-a2))] rfl ga_ ?_; (with_reducible refine (num_add.calls a1 (wrap64 (-a2)) t109 false _ A17.out).mono ?_); rintro e w' ⟨rfl, ⟨nd, rfl⟩⟩; refine ⟨_, rfl, ?_⟩))
                    go_ret2
                    exact rz_
                · rw [if_neg c16] at H
                  obtain ⟨c16b0, c16b1⟩ := neB_ c16
                  replace H := Option.bind_eq_some_iff.mp H
                  obtain ⟨⟨t111, t112⟩, A190, H⟩ := H
                  replace H : (if t112 = true then (some (t111, 0)) else (some (0, 4))) = some (r1, r2) := H
                  have A19 := Aside0.mk A190
                  clear A190
                  by_cases c20 : t112 = true
                  · subst c20
                    have H1 : (some (t111, 0)) = some (r1, r2) := by rw [if_pos rfl] at H; exact H
                    clear H
                    have H := H1
                    clear H1
                    simp only [Option.some.injEq, Prod.mk.injEq] at H
                    obtain ⟨rfl, rfl⟩ := H
                    go_wp2_with (first | ((with_reducible refine gate_callee (f := 37) rfl ?_); refine goesL_ (some 32) rfl rfl Try.func37 (by kernel_rfl) rfl #[.int .i64 a1, .int .i64 a2] rfl ga_ ?_; (with_reducible refine (num_mul.calls kj7 a1 a2 t111 true _ A19.out).mono ?_); rintro e w' ⟨rfl, ⟨nd, rfl⟩⟩; refine ⟨_, rfl, ?_⟩))
                    go_ret2
                    exact rz_
                  · replace c20 := Bool.eq_false_iff.mpr c20
                    subst c20
                    have H1 : (some (0, 4)) = some (r1, r2) := by rw [if_neg (show ¬ (false = true) by decide)] at H; exact H
                    clear H
                    have H := H1
                    clear H1
                    simp only [Option.some.injEq, Prod.mk.injEq] at H
                    obtain ⟨rfl, rfl⟩ := H
                    go_wp2_with (first | ((with_reducible refine gate_callee (f := 37) rfl ?_); refine goesL_ (some 32) rfl rfl Try.func37 (by kernel_rfl) rfl #[.int .i64 a1, .int .i64 a2] rfl ga_ ?_; (with_reducible refine (num_mul.calls kj7 a1 a2 t111 false _ A19.out).mono ?_); rintro e w' ⟨rfl, ⟨nd, rfl⟩⟩; refine ⟨_, rfl, ?_⟩))
                    go_ret2
                    exact rz_
end Go.Proofs.Ytconpnagoijacaa.P
end
section
namespace Go.Proofs.Ytconpnagoijacaa.P
open Go.RowKit Go.Proofs.YtconpnagoijacaaW.PrintWords Go.Proofs.YtconpnagoijacaaW.PrintLast Go.Proofs.YtconpnagoijacaaW.PrintMore
attribute [local go_sem] max2_int min2_int max_two min_two max_three min_three max_four min_four
set_option linter.unusedVariables false
set_option linter.unusedSimpArgs false
def num_Sum.l0 : Nat → Int → List Int → Int → Int → Option (Int × Int)
  | 0, _, _, _, _ => none
  | k + 1, x4, x8, x9, x10 => if x10 < x9 then (if 0 ≤ x10 then (if x10 < (x8.length : Int) then ((num_Do.f k 3 x4 (rd x8 x10)).bind fun bt116 => (if bt116.2 = 0 then (num_Sum.l0 k bt116.1 x8 x9 (wrap64 (x10 + 1))) else (some (0, bt116.2)))) else (none)) else (none)) else (some (x4, 0))
def num_Sum.f (k : Nat) (l0 : List Int) : Option (Int × Int) := num_Sum.l0 k 0 l0 (l0.length : Int) 0
theorem num_Sum.mono_l : ∀ k, (∀ y0 y1 y2 y3, LeO (num_Sum.l0 k y0 y1 y2 y3) (num_Sum.l0 (k + 1) y0 y1 y2 y3))
  | 0 => fun _ _ _ _ r h => by simp [num_Sum.l0] at h
  | k + 1 => by
    have ih0 := num_Sum.mono_l k
    · intro y0 y1 y2 y3
      unfold num_Sum.l0
      repeat' first
      | (with_reducible exact ih0 _ _ _ _)
      | (with_reducible exact num_Do.mono _ _ _ _)
      | (with_reducible exact LeO.refl _)
      | (with_reducible exact LeO.none _)
      | (with_reducible refine LeO.ite ?_ ?_)
      | (with_reducible refine LeO.bind ?_ (fun _ => ?_))
      | exact ih0 _ _ _ _
      | exact num_Do.mono _ _ _ _
      | exact LeO.none _
      | refine LeO.ite ?_ ?_
      | refine LeO.bind ?_ (fun _ => ?_)
theorem num_Sum.mono : ∀ a0 k, LeO (num_Sum.f k a0) (num_Sum.f (k + 1) a0) := by
  intro a0 k
  have ih0 := num_Sum.mono_l k
  unfold num_Sum.f
  repeat' first
      | (with_reducible exact ih0 _ _ _ _)
      | (with_reducible exact num_Do.mono _ _ _ _)
      | (with_reducible exact LeO.refl _)
      | (with_reducible exact LeO.none _)
      | (with_reducible refine LeO.ite ?_ ?_)
      | (with_reducible refine LeO.bind ?_ (fun _ => ?_))
      | exact ih0 _ _ _ _
      | exact num_Do.mono _ _ _ _
      | exact LeO.none _
      | refine LeO.ite ?_ ?_
      | refine LeO.bind ?_ (fun _ => ?_)
set_option maxHeartbeats 8000000 in
set_option maxRecDepth 100000 in
theorem num_Sum.calls (k : Nat) (A0 : Option Addr) (c0 : Nat) (l0 : List Int) (r1 : Int) (r2 : Int) (w : World) (hr0 : Kd.C (Kd.int .i64) w A0 l0.length l0) (hc0 : l0.length ≤ c0) (h : num_Sum.f k l0 = some (r1, r2)) :
    Calls Try.prog 15 #[.slice A0 l0.length c0] w fun e w' => e = .returned (.tuple #[.int .i64 r1, .int .i64 r2]) ∧ Drawn0 w w' := by
  have HR0 := Aside0.mk hr0
  have HC0 := Aside0.mk hc0
  clear hr0 hc0
  have H : (num_Sum.l0 k 0 l0 (l0.length : Int) 0) = some (r1, r2) := h
  clear h
  have H' := Aside0.mk H
  clear H
  go_enter Try.func15, Try.ntmps15
  go_wp2
  go_loopg [4, 10] k (fun kq v4 v10 w' => ∃ (x4_1 : Int) (x10_1 : Int), v4 = .int .i64 x4_1 ∧ v10 = .int .i64 x10_1 ∧ Aside0 (num_Sum.l0 kq x4_1 l0 (l0.length : Int) x10_1 = some (r1, r2)) ∧ Aside0 (kq ≤ k) ∧ Drawn0 w w')
  case atStart => exact ⟨(0), (0), ra_, ra_, H', ⟨Nat.le_refl _⟩, dz_⟩
  case round =>
    clear H'
    try clear c1
    obtain ⟨x4_1, x10_1, rfl, rfl, HA, HK1, ⟨m1, rfl⟩⟩ := hrel
    cases gk with
    | zero => exact absurd HA.out (by simp [num_Sum.l0])
    | succ k1 =>
      have H := HA.out
      clear HA
      simp only [num_Sum.l0] at H
      by_cases c2 : x10_1 < (l0.length : Int)
      · rw [if_pos c2] at H
        have c2b0 : decide (x10_1 < (l0.length : Int)) = true := decide_eq_true c2
        clear c2
        by_cases c3 : 0 ≤ x10_1
        · rw [if_pos c3] at H
          have c3b0 : decide (0 ≤ x10_1) = true := decide_eq_true c3
          clear c3
          by_cases c4 : x10_1 < (l0.length : Int)
          · rw [if_pos c4] at H
            have c4b0 : decide (x10_1 < (l0.length : Int)) = true := decide_eq_true c4
            clear c4
            replace H := Option.bind_eq_some_iff.mp H
            obtain ⟨⟨t116, t117⟩, A50, H⟩ := H
            replace H : (if t117 = 0 then (num_Sum.l0 k1 t116 l0 (l0.length : Int) (wrap64 (x10_1 + 1))) else (some (0, t117))) = some (r1, r2) := H
            have A5 := Aside0.mk A50
            clear A50
            by_cases c6 : t117 = 0
            · rw [if_pos c6] at H
              obtain ⟨c6b0, c6b1⟩ := eqB_ c6
              clear c6
              have H' := Aside0.mk H
              clear H
              have p115 : 0 ≤ (x10_1 : Int) := dt_
              have q115 : x10_1 < (l0.length : Int) := dt_
              obtain ⟨ad115, e115, hx115_0⟩ := Kd.at_int HR0.out x10_1 p115 q115
              cases e115
              replace p115 := eq_true p115
              replace q115 := eq_true q115
              go_wp2_with (first | ((with_reducible refine gate_callee (f := 13) rfl ?_); refine goesL_ (some 17) rfl rfl Try.func13 (by kernel_rfl) rfl #[.int .i64 3, .int .i64 x4_1, .int .i64 (rd l0 x10_1)] rfl ga_ ?_; (with_reducible refine (num_Do.calls k1 3 x4_1 (rd l0 x10_1) t116 t117 _ A5.out).mono ?_); rintro e w' ⟨rfl, ⟨nd, rfl⟩⟩; refine ⟨_, rfl, ?_⟩))
              go_roundg k1
              case measure => have := HK1.out; omega
              case rel => exact ⟨(t116), (wrap64 (x10_1 + 1)), ra_, ra_, H', ⟨by have := HK1.out; omega⟩, dz_⟩
            · rw [if_neg c6] at H
              obtain ⟨c6b0, c6b1⟩ := neB_ c6
              simp only [Option.some.injEq, Prod.mk.injEq] at H
              obtain ⟨rfl, rfl⟩ := H
              have p115 : 0 ≤ (x10_1 : Int) := dt_
              have q115 : x10_1 < (l0.length : Int) := dt_
              obtain ⟨ad115, e115, hx115_0⟩ := Kd.at_int HR0.out x10_1 p115 q115
              cases e115
              replace p115 := eq_true p115
              replace q115 := eq_true q115
              go_wp2_with (first | ((with_reducible refine gate_callee (f := 13) rfl ?_); refine goesL_ (some 17) rfl rfl Try.func13 (by kernel_rfl) rfl #[.int .i64 3, .int .i64 x4_1, .int .i64 (rd l0 x10_1)] rfl ga_ ?_; (with_reducible refine (num_Do.calls k1 3 x4_1 (rd l0 x10_1) t116 t117 _ A5.out).mono ?_); rintro e w' ⟨rfl, ⟨nd, rfl⟩⟩; refine ⟨_, rfl, ?_⟩))
              go_ret2
              exact rz_
          · rw [if_neg c4] at H
            exact absurd H (by simp)
        · rw [if_neg c3] at H
          exact absurd H (by simp)
      · rw [if_neg c2] at H
        have c2b0 : decide (x10_1 < (l0.length : Int)) = false := decide_eq_false c2
        clear c2
        simp only [Option.some.injEq, Prod.mk.injEq] at H
        obtain ⟨rfl, rfl⟩ := H
        go_wp2
        go_ret2
        exact rz_
end Go.Proofs.Ytconpnagoijacaa.P
end
section
namespace Go.Proofs.Ytconpnagoijacaa.P
open Go.RowKit Go.Proofs.YtconpnagoijacaaW.PrintWords Go.Proofs.YtconpnagoijacaaW.PrintLast Go.Proofs.YtconpnagoijacaaW.PrintMore
attribute [local go_sem] max2_int min2_int max_two min_two max_three min_three max_four min_four
set_option linter.unusedVariables false
set_option linter.unusedSimpArgs false
def expr_pushes.f (a0 : Int) : Option (Bool) := if a0 = 1 then (some true) else (some (a0 == 2))
set_option maxHeartbeats 8000000 in
set_option maxRecDepth 100000 in
theorem expr_pushes.calls (a0 : Int) (r : Bool) (w : World) (h : expr_pushes.f a0 = some r) :
    Calls Try.prog 40 #[.int .i64 a0] w fun e w' => e = .returned (.bool r) ∧ Drawn0 w w' := by
  have H : (if a0 = 1 then (some true) else (some (a0 == 2))) = some r := h
  clear h
  by_cases c2 : a0 = 1
  · rw [if_pos c2] at H
    obtain ⟨c2b0, c2b1⟩ := eqB_ c2
    clear c2
    obtain rfl := Option.some.inj H
    go_enter Try.func40, Try.ntmps40
    go_wp2
    go_ret
    exact rz_
  · rw [if_neg c2] at H
    obtain ⟨c2b0, c2b1⟩ := neB_ c2
    obtain rfl := Option.some.inj H
    go_enter Try.func40, Try.ntmps40
    go_wp2
    go_ret
    exact rz_
end Go.Proofs.Ytconpnagoijacaa.P
end
section
namespace Go.Proofs.Ytconpnagoijacaa.P
open Go.RowKit Go.Proofs.YtconpnagoijacaaW.PrintWords Go.Proofs.YtconpnagoijacaaW.PrintLast Go.Proofs.YtconpnagoijacaaW.PrintMore
attribute [local go_sem] max2_int min2_int max_two min_two max_three min_three max_four min_four
set_option linter.unusedVariables false
set_option linter.unusedSimpArgs false
def subst_letter.f (a0 : Int) : Option (Bool) := if a0 ≥ 97 then (if a0 ≤ 122 then (some true) else (if a0 ≥ 65 then (if a0 ≤ 90 then (some true) else (if a0 ≥ 48 then (if a0 ≤ 57 then (some true) else (some (a0 == 95))) else (some (a0 == 95)))) else (if a0 ≥ 48 then (if a0 ≤ 57 then (some true) else (some (a0 == 95))) else (some (a0 == 95))))) else (if a0 ≥ 65 then (if a0 ≤ 90 then (some true) else (if a0 ≥ 48 then (if a0 ≤ 57 then (some true) else (some (a0 == 95))) else (some (a0 == 95)))) else (if a0 ≥ 48 then (if a0 ≤ 57 then (some true) else (some (a0 == 95))) else (some (a0 == 95))))
set_option maxHeartbeats 8000000 in
set_option maxRecDepth 100000 in
theorem subst_letter.calls (a0 : Int) (r : Bool) (w : World) (h : subst_letter.f a0 = some r) :
    Calls Try.prog 61 #[.int .u8 a0] w fun e w' => e = .returned (.bool r) ∧ Drawn0 w w' := by
  have H : (if a0 ≥ 97 then (if a0 ≤ 122 then (some true) else (if a0 ≥ 65 then (if a0 ≤ 90 then (some true) else (if a0 ≥ 48 then (if a0 ≤ 57 then (some true) else (some (a0 == 95))) else (some (a0 == 95)))) else (if a0 ≥ 48 then (if a0 ≤ 57 then (some true) else (some (a0 == 95))) else (some (a0 == 95))))) else (if a0 ≥ 65 then (if a0 ≤ 90 then (some true) else (if a0 ≥ 48 then (if a0 ≤ 57 then (some true) else (some (a0 == 95))) else (some (a0 == 95)))) else (if a0 ≥ 48 then (if a0 ≤ 57 then (some true) else (some (a0 == 95))) else (some (a0 == 95))))) = some r := h
  clear h
  by_cases c2 : a0 ≥ 97
  · rw [if_pos c2] at H
    have c2b0 : decide (97 ≤ a0) = true := decide_eq_true c2
    clear c2
    by_cases c3 : a0 ≤ 122
    · rw [if_pos c3] at H
      have c3b0 : decide (a0 ≤ 122) = true := decide_eq_true c3
      clear c3
      obtain rfl := Option.some.inj H
      go_enter Try.func61, Try.ntmps61
      go_wp2
      go_ret
      exact rz_
    · rw [if_neg c3] at H
      have c3b0 : decide (a0 ≤ 122) = false := decide_eq_false c3
      clear c3
      by_cases c4 : a0 ≥ 65
      · rw [if_pos c4] at H
        have c4b0 : decide (65 ≤ a0) = true := decide_eq_true c4
        clear c4
        by_cases c5 : a0 ≤ 90
        · rw [if_pos c5] at H
          have c5b0 : decide (a0 ≤ 90) = true := decide_eq_true c5
          clear c5
          obtain rfl := Option.some.inj H
          go_enter Try.func61, Try.ntmps61
          go_wp2
          go_ret
          exact rz_
        · rw [if_neg c5] at H
          have c5b0 : decide (a0 ≤ 90) = false := decide_eq_false c5
          clear c5
          by_cases c6 : a0 ≥ 48
          · rw [if_pos c6] at H
            have c6b0 : decide (48 ≤ a0) = true := decide_eq_true c6
            clear c6
            by_cases c7 : a0 ≤ 57
            · rw [if_pos c7] at H
              have c7b0 : decide (a0 ≤ 57) = true := decide_eq_true c7
              clear c7
              obtain rfl := Option.some.inj H
              go_enter Try.func61, Try.ntmps61
              go_wp2
              go_ret
              exact rz_
            · rw [if_neg c7] at H
              have c7b0 : decide (a0 ≤ 57) = false := decide_eq_false c7
              clear c7
              obtain rfl := Option.some.inj H
              go_enter Try.func61, Try.ntmps61
              go_wp2
              go_ret
              exact rz_
          · rw [if_neg c6] at H
            have c6b0 : decide (48 ≤ a0) = false := decide_eq_false c6
            clear c6
            obtain rfl := Option.some.inj H
            go_enter Try.func61, Try.ntmps61
            go_wp2
            go_ret
            exact rz_
      · rw [if_neg c4] at H
        have c4b0 : decide (65 ≤ a0) = false := decide_eq_false c4
        clear c4
        by_cases c8 : a0 ≥ 48
        · rw [if_pos c8] at H
          have c8b0 : decide (48 ≤ a0) = true := decide_eq_true c8
          clear c8
          by_cases c9 : a0 ≤ 57
          · rw [if_pos c9] at H
            have c9b0 : decide (a0 ≤ 57) = true := decide_eq_true c9
            clear c9
            obtain rfl := Option.some.inj H
            go_enter Try.func61, Try.ntmps61
            go_wp2
            go_ret
            exact rz_
          · rw [if_neg c9] at H
            have c9b0 : decide (a0 ≤ 57) = false := decide_eq_false c9
            clear c9
            obtain rfl := Option.some.inj H
            go_enter Try.func61, Try.ntmps61
            go_wp2
            go_ret
            exact rz_
        · rw [if_neg c8] at H
          have c8b0 : decide (48 ≤ a0) = false := decide_eq_false c8
          clear c8
          obtain rfl := Option.some.inj H
          go_enter Try.func61, Try.ntmps61
          go_wp2
          go_ret
          exact rz_
  · rw [if_neg c2] at H
    have c2b0 : decide (97 ≤ a0) = false := decide_eq_false c2
    clear c2
    by_cases c10 : a0 ≥ 65
    · rw [if_pos c10] at H
      have c10b0 : decide (65 ≤ a0) = true := decide_eq_true c10
      clear c10
      by_cases c11 : a0 ≤ 90
      · rw [if_pos c11] at H
        have c11b0 : decide (a0 ≤ 90) = true := decide_eq_true c11
        clear c11
        obtain rfl := Option.some.inj H
        go_enter Try.func61, Try.ntmps61
        go_wp2
        go_ret
        exact rz_
      · rw [if_neg c11] at H
        have c11b0 : decide (a0 ≤ 90) = false := decide_eq_false c11
        clear c11
        by_cases c12 : a0 ≥ 48
        · rw [if_pos c12] at H
          have c12b0 : decide (48 ≤ a0) = true := decide_eq_true c12
          clear c12
          by_cases c13 : a0 ≤ 57
          · rw [if_pos c13] at H
            have c13b0 : decide (a0 ≤ 57) = true := decide_eq_true c13
            clear c13
            obtain rfl := Option.some.inj H
            go_enter Try.func61, Try.ntmps61
            go_wp2
            go_ret
            exact rz_
          · rw [if_neg c13] at H
            have c13b0 : decide (a0 ≤ 57) = false := decide_eq_false c13
            clear c13
            obtain rfl := Option.some.inj H
            go_enter Try.func61, Try.ntmps61
            go_wp2
            go_ret
            exact rz_
        · rw [if_neg c12] at H
          have c12b0 : decide (48 ≤ a0) = false := decide_eq_false c12
          clear c12
          obtain rfl := Option.some.inj H
          go_enter Try.func61, Try.ntmps61
          go_wp2
          go_ret
          exact rz_
    · rw [if_neg c10] at H
      have c10b0 : decide (65 ≤ a0) = false := decide_eq_false c10
      clear c10
      by_cases c14 : a0 ≥ 48
      · rw [if_pos c14] at H
        have c14b0 : decide (48 ≤ a0) = true := decide_eq_true c14
        clear c14
        by_cases c15 : a0 ≤ 57
        · rw [if_pos c15] at H
          have c15b0 : decide (a0 ≤ 57) = true := decide_eq_true c15
          clear c15
          obtain rfl := Option.some.inj H
          go_enter Try.func61, Try.ntmps61
          go_wp2
          go_ret
          exact rz_
        · rw [if_neg c15] at H
          have c15b0 : decide (a0 ≤ 57) = false := decide_eq_false c15
          clear c15
          obtain rfl := Option.some.inj H
          go_enter Try.func61, Try.ntmps61
          go_wp2
          go_ret
          exact rz_
      · rw [if_neg c14] at H
        have c14b0 : decide (48 ≤ a0) = false := decide_eq_false c14
        clear c14
        obtain rfl := Option.some.inj H
        go_enter Try.func61, Try.ntmps61
        go_wp2
        go_ret
        exact rz_
end Go.Proofs.Ytconpnagoijacaa.P
end
section
namespace Go.Proofs.Ytconpnagoijacaa.P
open Go.RowKit Go.Proofs.YtconpnagoijacaaW.PrintWords Go.Proofs.YtconpnagoijacaaW.PrintLast Go.Proofs.YtconpnagoijacaaW.PrintMore
attribute [local go_sem] max2_int min2_int max_two min_two max_three min_three max_four min_four
set_option linter.unusedVariables false
set_option linter.unusedSimpArgs false
mutual
def subst_Var.j0 : Nat → ByteArray → Bool → Option (Bool)
  | 0, _, _ => none
  | k + 1, x0, x21 => if x21 = true then (some false) else (subst_Var.l0 k x0 (x0.size : Int) 0)
def subst_Var.l0 : Nat → ByteArray → Int → Int → Option (Bool)
  | 0, _, _, _ => none
  | k + 1, x0, x23, x24 => if x24 < x23 then (if 0 ≤ x24 then (if x24 < (x0.size : Int) then ((subst_letter.f (bt x0 x24)).bind fun t210 => (if t210 = true then (subst_Var.l0 k x0 x23 (wrap64 (x24 + 1))) else (some false))) else (none)) else (none)) else (some true)
end
def subst_Var.f (k : Nat) (a0 : ByteArray) : Option (Bool) := if (a0.size : Int) < 1 then (subst_Var.j0 k a0 true) else (if (a0.size : Int) > 24 then (subst_Var.j0 k a0 true) else (if 0 < (a0.size : Int) then (if (bt a0 0) < 65 then (subst_Var.j0 k a0 true) else (subst_Var.j0 k a0 (decide ((bt a0 0) > 90)))) else (none)))
theorem subst_Var.mono_l : ∀ k, (∀ y0 y1, LeO (subst_Var.j0 k y0 y1) (subst_Var.j0 (k + 1) y0 y1)) ∧ (∀ y0 y1 y2, LeO (subst_Var.l0 k y0 y1 y2) (subst_Var.l0 (k + 1) y0 y1 y2))
  | 0 => ⟨fun _ _ r h => by simp [subst_Var.j0] at h, fun _ _ _ r h => by simp [subst_Var.l0] at h⟩
  | k + 1 => by
    obtain ⟨ih0, ih1⟩ := subst_Var.mono_l k
    refine ⟨?_, ?_⟩
    · intro y0 y1
      unfold subst_Var.j0
      repeat' first
      | (with_reducible exact ih0 _ _)
      | (with_reducible exact ih1 _ _ _)
      | (with_reducible exact LeO.refl _)
      | (with_reducible exact LeO.none _)
      | (with_reducible refine LeO.ite ?_ ?_)
      | (with_reducible refine LeO.bind ?_ (fun _ => ?_))
      | exact ih0 _ _
      | exact ih1 _ _ _
      | exact LeO.none _
      | refine LeO.ite ?_ ?_
      | refine LeO.bind ?_ (fun _ => ?_)
    · intro y0 y1 y2
      unfold subst_Var.l0
      repeat' first
      | (with_reducible exact ih0 _ _)
      | (with_reducible exact ih1 _ _ _)
      | (with_reducible exact LeO.refl _)
      | (with_reducible exact LeO.none _)
      | (with_reducible refine LeO.ite ?_ ?_)
      | (with_reducible refine LeO.bind ?_ (fun _ => ?_))
      | exact ih0 _ _
      | exact ih1 _ _ _
      | exact LeO.none _
      | refine LeO.ite ?_ ?_
      | refine LeO.bind ?_ (fun _ => ?_)
theorem subst_Var.mono : ∀ a0 k, LeO (subst_Var.f k a0) (subst_Var.f (k + 1) a0) := by
  intro a0 k
  obtain ⟨ih0, ih1⟩ := subst_Var.mono_l k
  unfold subst_Var.f
  repeat' first
      | (with_reducible exact ih0 _ _)
      | (with_reducible exact ih1 _ _ _)
      | (with_reducible exact LeO.refl _)
      | (with_reducible exact LeO.none _)
      | (with_reducible refine LeO.ite ?_ ?_)
      | (with_reducible refine LeO.bind ?_ (fun _ => ?_))
      | exact ih0 _ _
      | exact ih1 _ _ _
      | exact LeO.none _
      | refine LeO.ite ?_ ?_
      | refine LeO.bind ?_ (fun _ => ?_)
set_option maxHeartbeats 8000000 in
set_option maxRecDepth 100000 in
theorem subst_Var.calls (k : Nat) (a0 : ByteArray) (r : Bool) (w : World) (h : subst_Var.f k a0 = some r) :
    Calls Try.prog 57 #[.string a0] w fun e w' => e = .returned (.bool r) ∧ Drawn0 w w' := by
  have H : (if (a0.size : Int) < 1 then (subst_Var.j0 k a0 true) else (if (a0.size : Int) > 24 then (subst_Var.j0 k a0 true) else (if 0 < (a0.size : Int) then (if (bt a0 0) < 65 then (subst_Var.j0 k a0 true) else (subst_Var.j0 k a0 (decide ((bt a0 0) > 90)))) else (none)))) = some r := h
  clear h
  have HC2 := Aside0.mk H
  clear H
  go_enter Try.func57, Try.ntmps57
  go_upto_region 1 with (fail)
  go_cut [21] (fun v21 wc => ∃ (kq : Nat) (x21_1 : Bool), v21 = .bool x21_1 ∧ Aside0 (subst_Var.j0 kq a0 x21_1 = some r) ∧ Aside0 (kq ≤ k) ∧ Drawn0 w wc)
  case first =>
    have H := HC2.out
    clear HC2
    by_cases c3 : (a0.size : Int) < 1
    · rw [if_pos c3] at H
      have c3b0 : decide ((a0.size : Int) < 1) = true := decide_eq_true c3
      have c3b1 : decide (a0.size < 1) = true := decide_eq_true (by omega)
      clear c3
      (first | rw [c3b0] | (simp only [i64_w, i32_w]; rw [c3b0]) | skip)
      have H' := Aside0.mk H
      clear H
      go_wp2
      go_meet
      case rel => exact ⟨_, (true), ra_, H', ⟨by first | omega | exact Nat.le_refl _⟩, dz_⟩
    · rw [if_neg c3] at H
      have c3b0 : decide ((a0.size : Int) < 1) = false := decide_eq_false c3
      have c3b1 : decide (a0.size < 1) = false := decide_eq_false (by omega)
      clear c3
      (first | rw [c3b0] | (simp only [i64_w, i32_w]; rw [c3b0]) | skip)
      by_cases c4 : (a0.size : Int) > 24
      · rw [if_pos c4] at H
        have c4b0 : decide (24 < (a0.size : Int)) = true := decide_eq_true c4
        have c4b1 : decide (24 < a0.size) = true := decide_eq_true (by omega)
        clear c4
        have H' := Aside0.mk H
        clear H
        go_wp2
        go_meet
        case rel => exact ⟨_, (true), ra_, H', ⟨by first | omega | exact Nat.le_refl _⟩, dz_⟩
      · rw [if_neg c4] at H
        have c4b0 : decide (24 < (a0.size : Int)) = false := decide_eq_false c4
        have c4b1 : decide (24 < a0.size) = false := decide_eq_false (by omega)
        clear c4
        by_cases c5 : 0 < (a0.size : Int)
        · rw [if_pos c5] at H
          have c5b0 : decide (0 < (a0.size : Int)) = true := decide_eq_true c5
          have c5b1 : decide (0 < a0.size) = true := decide_eq_true (by omega)
          clear c5
          by_cases c7 : (bt a0 0) < 65
          · rw [if_pos c7] at H
            have c7b0 : decide ((bt a0 0) < 65) = true := decide_eq_true c7
            clear c7
            have H' := Aside0.mk H
            clear H
            have p6 : 0 ≤ (0 : Int) := (by omega)
            have q6 : 0 < a0.size := (by have : (0 : Int) < (a0.size : Int) := dt_; omega)
            have hx6 : ∀ h : 0 < a0.size, ((a0[0]'h).toNat : Int) = bt a0 0 := bt_at a0 0
            clear p6
            have qi6 : (0 < (a0.size : Int)) = True := eq_true dt_
            replace q6 := eq_true q6
            go_wp2
            go_meet
            case rel => exact ⟨_, (true), ra_, H', ⟨by first | omega | exact Nat.le_refl _⟩, dz_⟩
          · rw [if_neg c7] at H
            have c7b0 : decide ((bt a0 0) < 65) = false := decide_eq_false c7
            clear c7
            have H' := Aside0.mk H
            clear H
            have p6 : 0 ≤ (0 : Int) := (by omega)
            have q6 : 0 < a0.size := (by have : (0 : Int) < (a0.size : Int) := dt_; omega)
            have hx6 : ∀ h : 0 < a0.size, ((a0[0]'h).toNat : Int) = bt a0 0 := bt_at a0 0
            clear p6
            have qi6 : (0 < (a0.size : Int)) = True := eq_true dt_
            replace q6 := eq_true q6
            have p8 : 0 ≤ (0 : Int) := (by omega)
            have q8 : 0 < a0.size := (by have : (0 : Int) < (a0.size : Int) := dt_; omega)
            have hx8 : ∀ h : 0 < a0.size, ((a0[0]'h).toNat : Int) = bt a0 0 := bt_at a0 0
            clear p8
            have qi8 : (0 < (a0.size : Int)) = True := eq_true dt_
            replace q8 := eq_true q8
            go_wp2
            go_meet
            case rel => exact ⟨_, (decide ((bt a0 0) > 90)), ra_, H', ⟨by first | omega | exact Nat.le_refl _⟩, dz_⟩
        · rw [if_neg c5] at H
          exact absurd H (by simp)
  case rest =>
    clear HC2
    try clear p2
    try clear c3
    try clear c3b0
    try clear c3b1
    try clear c4
    try clear c4b0
    try clear c4b1
    try clear c5
    try clear c5b0
    try clear c5b1
    try clear p6
    try clear q6
    try clear hx6
    try clear qi6
    try clear c7
    try clear c7b0
    try clear p8
    try clear q8
    try clear hx8
    try clear qi8
    try clear p6
    try clear p8
    try clear q6
    try clear q8
    obtain ⟨kq, x21_1, rfl, HA, HJ1, ⟨mc1, rfl⟩⟩ := hcut
    cases kq with
    | zero => exact absurd HA.out (by simp [subst_Var.j0])
    | succ kj1 =>
      have H := HA.out
      clear HA
      simp only [subst_Var.j0] at H
      by_cases c9 : x21_1 = true
      · subst c9
        have H1 : (some false) = some r := by rw [if_pos rfl] at H; exact H
        clear H
        have H := H1
        clear H1
        obtain rfl := Option.some.inj H
        go_wp2
        go_ret
        exact rz_
      · replace c9 := Bool.eq_false_iff.mpr c9
        subst c9
        have H1 : (subst_Var.l0 kj1 a0 (a0.size : Int) 0) = some r := by rw [if_neg (show ¬ (false = true) by decide)] at H; exact H
        clear H
        have H := H1
        clear H1
        have H' := Aside0.mk H
        clear H
        go_wp2
        go_loopg [24] kj1 (fun kq v24 w' => ∃ (x24_2 : Int), v24 = .int .i64 x24_2 ∧ Aside0 (subst_Var.l0 kq a0 (a0.size : Int) x24_2 = some r) ∧ Aside0 (kq ≤ kj1) ∧ Drawn0 w w')
        case atStart => exact ⟨(0), ra_, H', ⟨Nat.le_refl _⟩, dz_⟩
        case round =>
          clear H'
          try clear c1
          try clear p2
          try clear c3
          try clear c3b0
          try clear c3b1
          try clear c4
          try clear c4b0
          try clear c4b1
          try clear c5
          try clear c5b0
          try clear c5b1
          try clear p6
          try clear q6
          try clear hx6
          try clear qi6
          try clear c7
          try clear c7b0
          try clear p8
          try clear q8
          try clear hx8
          try clear qi8
          try clear c9
          try clear p2
          try clear p6
          try clear p8
          try clear q6
          try clear q8
          obtain ⟨x24_2, rfl, HA, HK2, ⟨m2, rfl⟩⟩ := hrel
          cases gk with
          | zero => exact absurd HA.out (by simp [subst_Var.l0])
          | succ k2 =>
            have H := HA.out
            clear HA
            simp only [subst_Var.l0] at H
            by_cases c10 : x24_2 < (a0.size : Int)
            · rw [if_pos c10] at H
              have c10b0 : decide (x24_2 < (a0.size : Int)) = true := decide_eq_true c10
              clear c10
              by_cases c11 : 0 ≤ x24_2
              · rw [if_pos c11] at H
                have c11b0 : decide (0 ≤ x24_2) = true := decide_eq_true c11
                clear c11
                by_cases c12 : x24_2 < (a0.size : Int)
                · rw [if_pos c12] at H
                  have c12b0 : decide (x24_2 < (a0.size : Int)) = true := decide_eq_true c12
                  clear c12
                  replace H := Option.bind_eq_some_iff.mp H
                  obtain ⟨t210, A140, H⟩ := H
                  replace H : (if t210 = true then (subst_Var.l0 k2 a0 (a0.size : Int) (wrap64 (x24_2 + 1))) else (some false)) = some r := H
                  have A14 := Aside0.mk A140
                  clear A140
                  by_cases c15 : t210 = true
                  · subst c15
                    have H1 : (subst_Var.l0 k2 a0 (a0.size : Int) (wrap64 (x24_2 + 1))) = some r := by rw [if_pos rfl] at H; exact H
                    clear H
                    have H := H1
                    clear H1
                    have H' := Aside0.mk H
                    clear H
                    have p13 : 0 ≤ (x24_2 : Int) := dt_
                    have q13 : x24_2 < (a0.size : Int) := dt_
                    have hx13 := bt_at a0 x24_2
                    replace p13 := eq_true p13
                    replace q13 := eq_true q13
                    go_wp2_with (first | ((with_reducible refine gate_callee (f := 61) rfl ?_); refine goesL_ (some 30) rfl rfl Try.func61 (by kernel_rfl) rfl #[.int .u8 (bt a0 x24_2)] rfl ga_ ?_; (with_reducible refine (subst_letter.calls (bt a0 x24_2) true _ A14.out).mono ?_); rintro e w' ⟨rfl, ⟨nd, rfl⟩⟩; refine ⟨_, rfl, ?_⟩))
                    go_roundg k2
                    case measure => have := HJ1.out; have := HK2.out; omega
                    case rel => exact ⟨(wrap64 (x24_2 + 1)), ra_, H', ⟨by have := HJ1.out; have := HK2.out; omega⟩, dz_⟩
                  · replace c15 := Bool.eq_false_iff.mpr c15
                    subst c15
                    have H1 : (some false) = some r := by rw [if_neg (show ¬ (false = true) by decide)] at H; exact H
                    clear H
                    have H := H1
                    clear H1
                    obtain rfl := Option.some.inj H
                    have p13 : 0 ≤ (x24_2 : Int) := dt_
                    have q13 : x24_2 < (a0.size : Int) := dt_
                    have hx13 := bt_at a0 x24_2
                    replace p13 := eq_true p13
                    replace q13 := eq_true q13
                    go_wp2_with (first | ((with_reducible refine gate_callee (f := 61) rfl ?_); refine goesL_ (some 30) rfl rfl Try.func61 (by kernel_rfl) rfl #[.int .u8 (bt a0 x24_2)] rfl ga_ ?_; (with_reducible refine (subst_letter.calls (bt a0 x24_2) false _ A14.out).mono ?_); rintro e w' ⟨rfl, ⟨nd, rfl⟩⟩; refine ⟨_, rfl, ?_⟩))
                    go_ret
                    exact rz_
                · rw [if_neg c12] at H
                  exact absurd H (by simp)
              · rw [if_neg c11] at H
                exact absurd H (by simp)
            · rw [if_neg c10] at H
              have c10b0 : decide (x24_2 < (a0.size : Int)) = false := decide_eq_false c10
              clear c10
              obtain rfl := Option.some.inj H
              go_wp2
              go_ret
              exact rz_
end Go.Proofs.Ytconpnagoijacaa.P
end
section
namespace Go.Proofs.Ytconpnagoijacaa.P
open Go.RowKit Go.Proofs.YtconpnagoijacaaW.PrintWords Go.Proofs.YtconpnagoijacaaW.PrintLast Go.Proofs.YtconpnagoijacaaW.PrintMore
attribute [local go_sem] max2_int min2_int max_two min_two max_three min_three max_four min_four
set_option linter.unusedVariables false
set_option linter.unusedSimpArgs false
def val_small.f (a0 : Int) : Option (Bool) := if a0 ≥ 97 then (some (decide (a0 ≤ 122))) else (some false)
set_option maxHeartbeats 8000000 in
set_option maxRecDepth 100000 in
theorem val_small.calls (a0 : Int) (r : Bool) (w : World) (h : val_small.f a0 = some r) :
    Calls Try.prog 64 #[.int .u8 a0] w fun e w' => e = .returned (.bool r) ∧ Drawn0 w w' := by
  have H : (if a0 ≥ 97 then (some (decide (a0 ≤ 122))) else (some false)) = some r := h
  clear h
  by_cases c2 : a0 ≥ 97
  · rw [if_pos c2] at H
    have c2b0 : decide (97 ≤ a0) = true := decide_eq_true c2
    clear c2
    obtain rfl := Option.some.inj H
    go_enter Try.func64, Try.ntmps64
    go_wp2
    go_ret
    exact rz_
  · rw [if_neg c2] at H
    have c2b0 : decide (97 ≤ a0) = false := decide_eq_false c2
    clear c2
    obtain rfl := Option.some.inj H
    go_enter Try.func64, Try.ntmps64
    go_wp2
    go_ret
    exact rz_
end Go.Proofs.Ytconpnagoijacaa.P
end
section
namespace Go.Proofs.Ytconpnagoijacaa.P
open Go.RowKit Go.Proofs.YtconpnagoijacaaW.PrintWords Go.Proofs.YtconpnagoijacaaW.PrintLast Go.Proofs.YtconpnagoijacaaW.PrintMore
attribute [local go_sem] max2_int min2_int max_two min_two max_three min_three max_four min_four
set_option linter.unusedVariables false
set_option linter.unusedSimpArgs false
def val_large.f (a0 : Int) : Option (Bool) := if a0 ≥ 65 then (some (decide (a0 ≤ 90))) else (some false)
set_option maxHeartbeats 8000000 in
set_option maxRecDepth 100000 in
theorem val_large.calls (a0 : Int) (r : Bool) (w : World) (h : val_large.f a0 = some r) :
    Calls Try.prog 65 #[.int .u8 a0] w fun e w' => e = .returned (.bool r) ∧ Drawn0 w w' := by
  have H : (if a0 ≥ 65 then (some (decide (a0 ≤ 90))) else (some false)) = some r := h
  clear h
  by_cases c2 : a0 ≥ 65
  · rw [if_pos c2] at H
    have c2b0 : decide (65 ≤ a0) = true := decide_eq_true c2
    clear c2
    obtain rfl := Option.some.inj H
    go_enter Try.func65, Try.ntmps65
    go_wp2
    go_ret
    exact rz_
  · rw [if_neg c2] at H
    have c2b0 : decide (65 ≤ a0) = false := decide_eq_false c2
    clear c2
    obtain rfl := Option.some.inj H
    go_enter Try.func65, Try.ntmps65
    go_wp2
    go_ret
    exact rz_
end Go.Proofs.Ytconpnagoijacaa.P
end
section
namespace Go.Proofs.Ytconpnagoijacaa.P
open Go.RowKit Go.Proofs.YtconpnagoijacaaW.PrintWords Go.Proofs.YtconpnagoijacaaW.PrintLast Go.Proofs.YtconpnagoijacaaW.PrintMore
attribute [local go_sem] max2_int min2_int max_two min_two max_three min_three max_four min_four
set_option linter.unusedVariables false
set_option linter.unusedSimpArgs false
def val_digit.f (a0 : Int) : Option (Bool) := if a0 ≥ 48 then (some (decide (a0 ≤ 57))) else (some false)
set_option maxHeartbeats 8000000 in
set_option maxRecDepth 100000 in
theorem val_digit.calls (a0 : Int) (r : Bool) (w : World) (h : val_digit.f a0 = some r) :
    Calls Try.prog 66 #[.int .u8 a0] w fun e w' => e = .returned (.bool r) ∧ Drawn0 w w' := by
  have H : (if a0 ≥ 48 then (some (decide (a0 ≤ 57))) else (some false)) = some r := h
  clear h
  by_cases c2 : a0 ≥ 48
  · rw [if_pos c2] at H
    have c2b0 : decide (48 ≤ a0) = true := decide_eq_true c2
    clear c2
    obtain rfl := Option.some.inj H
    go_enter Try.func66, Try.ntmps66
    go_wp2
    go_ret
    exact rz_
  · rw [if_neg c2] at H
    have c2b0 : decide (48 ≤ a0) = false := decide_eq_false c2
    clear c2
    obtain rfl := Option.some.inj H
    go_enter Try.func66, Try.ntmps66
    go_wp2
    go_ret
    exact rz_
end Go.Proofs.Ytconpnagoijacaa.P
end
section
namespace Go.Proofs.Ytconpnagoijacaa.P
open Go.RowKit Go.Proofs.YtconpnagoijacaaW.PrintWords Go.Proofs.YtconpnagoijacaaW.PrintLast Go.Proofs.YtconpnagoijacaaW.PrintMore
attribute [local go_sem] max2_int min2_int max_two min_two max_three min_three max_four min_four
set_option linter.unusedVariables false
set_option linter.unusedSimpArgs false
mutual
def val_symbol.j0 : Nat → ByteArray → Bool → Option (Bool)
  | 0, _, _ => none
  | k + 1, x0, x17 => if x17 = true then (some false) else (val_symbol.l0 k x0 (x0.size : Int) 0)
def val_symbol.l0 : Nat → ByteArray → Int → Int → Option (Bool)
  | 0, _, _, _ => none
  | k + 1, x0, x19, x20 => if x20 < x19 then (if 0 ≤ x20 then (if x20 < (x0.size : Int) then ((val_small.f (bt x0 x20)).bind fun t212 => (if t212 = true then (val_symbol.l0 k x0 x19 (wrap64 (x20 + 1))) else ((val_large.f (bt x0 x20)).bind fun t213 => (if t213 = true then (val_symbol.l0 k x0 x19 (wrap64 (x20 + 1))) else ((val_digit.f (bt x0 x20)).bind fun t214 => (if t214 = true then (val_symbol.l0 k x0 x19 (wrap64 (x20 + 1))) else (if (bt x0 x20) = 95 then (val_symbol.l0 k x0 x19 (wrap64 (x20 + 1))) else (some false)))))))) else (none)) else (none)) else (some true)
end
def val_symbol.f (k : Nat) (a0 : ByteArray) : Option (Bool) := if (a0.size : Int) < 1 then (val_symbol.j0 k a0 true) else (if (a0.size : Int) > 24 then (val_symbol.j0 k a0 true) else (if 0 < (a0.size : Int) then ((val_small.f (bt a0 0)).bind fun t211 => (val_symbol.j0 k a0 (!t211))) else (none)))
theorem val_symbol.mono_l : ∀ k, (∀ y0 y1, LeO (val_symbol.j0 k y0 y1) (val_symbol.j0 (k + 1) y0 y1)) ∧ (∀ y0 y1 y2, LeO (val_symbol.l0 k y0 y1 y2) (val_symbol.l0 (k + 1) y0 y1 y2))
  | 0 => ⟨fun _ _ r h => by simp [val_symbol.j0] at h, fun _ _ _ r h => by simp [val_symbol.l0] at h⟩
  | k + 1 => by
    obtain ⟨ih0, ih1⟩ := val_symbol.mono_l k
    refine ⟨?_, ?_⟩
    · intro y0 y1
      unfold val_symbol.j0
      repeat' first
      | (with_reducible exact ih0 _ _)
      | (with_reducible exact ih1 _ _ _)
      | (with_reducible exact LeO.refl _)
      | (with_reducible exact LeO.none _)
      | (with_reducible refine LeO.ite ?_ ?_)
      | (with_reducible refine LeO.bind ?_ (fun _ => ?_))
      | exact ih0 _ _
      | exact ih1 _ _ _
      | exact LeO.none _
      | refine LeO.ite ?_ ?_
      | refine LeO.bind ?_ (fun _ => ?_)
    · intro y0 y1 y2
      unfold val_symbol.l0
      repeat' first
      | (with_reducible exact ih0 _ _)
      | (with_reducible exact ih1 _ _ _)
      | (with_reducible exact LeO.refl _)
      | (with_reducible exact LeO.none _)
      | (with_reducible refine LeO.ite ?_ ?_)
      | (with_reducible refine LeO.bind ?_ (fun _ => ?_))
      | exact ih0 _ _
      | exact ih1 _ _ _
      | exact LeO.none _
      | refine LeO.ite ?_ ?_
      | refine LeO.bind ?_ (fun _ => ?_)
theorem val_symbol.mono : ∀ a0 k, LeO (val_symbol.f k a0) (val_symbol.f (k + 1) a0) := by
  intro a0 k
  obtain ⟨ih0, ih1⟩ := val_symbol.mono_l k
  unfold val_symbol.f
  repeat' first
      | (with_reducible exact ih0 _ _)
      | (with_reducible exact ih1 _ _ _)
      | (with_reducible exact LeO.refl _)
      | (with_reducible exact LeO.none _)
      | (with_reducible refine LeO.ite ?_ ?_)
      | (with_reducible refine LeO.bind ?_ (fun _ => ?_))
      | exact ih0 _ _
      | exact ih1 _ _ _
      | exact LeO.none _
      | refine LeO.ite ?_ ?_
      | refine LeO.bind ?_ (fun _ => ?_)
set_option maxHeartbeats 8000000 in
set_option maxRecDepth 100000 in
theorem val_symbol.calls (k : Nat) (a0 : ByteArray) (r : Bool) (w : World) (h : val_symbol.f k a0 = some r) :
    Calls Try.prog 62 #[.string a0] w fun e w' => e = .returned (.bool r) ∧ Drawn0 w w' := by
  have H : (if (a0.size : Int) < 1 then (val_symbol.j0 k a0 true) else (if (a0.size : Int) > 24 then (val_symbol.j0 k a0 true) else (if 0 < (a0.size : Int) then ((val_small.f (bt a0 0)).bind fun t211 => (val_symbol.j0 k a0 (!t211))) else (none)))) = some r := h
  clear h
  have HC2 := Aside0.mk H
  clear H
  go_enter Try.func62, Try.ntmps62
  go_upto_region 1 with (fail)
  go_cut [17] (fun v17 wc => ∃ (kq : Nat) (x17_1 : Bool), v17 = .bool x17_1 ∧ Aside0 (val_symbol.j0 kq a0 x17_1 = some r) ∧ Aside0 (kq ≤ k) ∧ Drawn0 w wc)
  case first =>
    have H := HC2.out
    clear HC2
    by_cases c3 : (a0.size : Int) < 1
    · rw [if_pos c3] at H
      have c3b0 : decide ((a0.size : Int) < 1) = true := decide_eq_true c3
      have c3b1 : decide (a0.size < 1) = true := decide_eq_true (by omega)
      clear c3
      (first | rw [c3b0] | (simp only [i64_w, i32_w]; rw [c3b0]) | skip)
      have H' := Aside0.mk H
      clear H
      go_wp2
      go_meet
      case rel => exact ⟨_, (true), ra_, H', ⟨by first | omega | exact Nat.le_refl _⟩, dz_⟩
    · rw [if_neg c3] at H
      have c3b0 : decide ((a0.size : Int) < 1) = false := decide_eq_false c3
      have c3b1 : decide (a0.size < 1) = false := decide_eq_false (by omega)
      clear c3
      (first | rw [c3b0] | (simp only [i64_w, i32_w]; rw [c3b0]) | skip)
      by_cases c4 : (a0.size : Int) > 24
      · rw [if_pos c4] at H
        have c4b0 : decide (24 < (a0.size : Int)) = true := decide_eq_true c4
        have c4b1 : decide (24 < a0.size) = true := decide_eq_true (by omega)
        clear c4
        have H' := Aside0.mk H
        clear H
        go_wp2
        go_meet
        case rel => exact ⟨_, (true), ra_, H', ⟨by first | omega | exact Nat.le_refl _⟩, dz_⟩
      · rw [if_neg c4] at H
        have c4b0 : decide (24 < (a0.size : Int)) = false := decide_eq_false c4
        have c4b1 : decide (24 < a0.size) = false := decide_eq_false (by omega)
        clear c4
        by_cases c5 : 0 < (a0.size : Int)
        · rw [if_pos c5] at H
          have c5b0 : decide (0 < (a0.size : Int)) = true := decide_eq_true c5
          have c5b1 : decide (0 < a0.size) = true := decide_eq_true (by omega)
          clear c5
          replace H := Option.bind_eq_some_iff.mp H
          obtain ⟨t211, A70, H⟩ := H
          replace H : (val_symbol.j0 k a0 (!t211)) = some r := H
          have A7 := Aside0.mk A70
          clear A70
          have H' := Aside0.mk H
          clear H
          have p6 : 0 ≤ (0 : Int) := (by omega)
          have q6 : 0 < a0.size := (by have : (0 : Int) < (a0.size : Int) := dt_; omega)
          have hx6 : ∀ h : 0 < a0.size, ((a0[0]'h).toNat : Int) = bt a0 0 := bt_at a0 0
          clear p6
          have qi6 : (0 < (a0.size : Int)) = True := eq_true dt_
          replace q6 := eq_true q6
          go_wp2_with (first | (go_at_call 64; (with_reducible refine (val_small.calls (bt a0 0) t211 _ A7.out).mono ?_); rintro e w' ⟨rfl, ⟨nd, rfl⟩⟩))
          go_meet
          case rel => exact ⟨_, (!t211), ra_, H', ⟨by first | omega | exact Nat.le_refl _⟩, dz_⟩
        · rw [if_neg c5] at H
          exact absurd H (by simp)
  case rest =>
    clear HC2
    try clear p2
    try clear c3
    try clear c3b0
    try clear c3b1
    try clear c4
    try clear c4b0
    try clear c4b1
    try clear c5
    try clear c5b0
    try clear c5b1
    try clear c6
    try clear p6
    try clear q6
    try clear hx6
    try clear qi6
    try clear p6
    try clear q6
    obtain ⟨kq, x17_1, rfl, HA, HJ1, ⟨mc1, rfl⟩⟩ := hcut
    cases kq with
    | zero => exact absurd HA.out (by simp [val_symbol.j0])
    | succ kj1 =>
      have H := HA.out
      clear HA
      simp only [val_symbol.j0] at H
      by_cases c8 : x17_1 = true
      · subst c8
        have H1 : (some false) = some r := by rw [if_pos rfl] at H; exact H
        clear H
        have H := H1
        clear H1
        obtain rfl := Option.some.inj H
        go_wp2
        go_ret
        exact rz_
      · replace c8 := Bool.eq_false_iff.mpr c8
        subst c8
        have H1 : (val_symbol.l0 kj1 a0 (a0.size : Int) 0) = some r := by rw [if_neg (show ¬ (false = true) by decide)] at H; exact H
        clear H
        have H := H1
        clear H1
        have H' := Aside0.mk H
        clear H
        go_wp2
        go_loopg [20] kj1 (fun kq v20 w' => ∃ (x20_2 : Int), v20 = .int .i64 x20_2 ∧ Aside0 (val_symbol.l0 kq a0 (a0.size : Int) x20_2 = some r) ∧ Aside0 (kq ≤ kj1) ∧ Drawn0 w w')
        case atStart => exact ⟨(0), ra_, H', ⟨Nat.le_refl _⟩, dz_⟩
        case round =>
          clear H'
          try clear c1
          try clear p2
          try clear c3
          try clear c3b0
          try clear c3b1
          try clear c4
          try clear c4b0
          try clear c4b1
          try clear c5
          try clear c5b0
          try clear c5b1
          try clear c6
          try clear p6
          try clear q6
          try clear hx6
          try clear qi6
          try clear c8
          try clear p2
          try clear p6
          try clear q6
          obtain ⟨x20_2, rfl, HA, HK2, ⟨m2, rfl⟩⟩ := hrel
          cases gk with
          | zero => exact absurd HA.out (by simp [val_symbol.l0])
          | succ k2 =>
            have H := HA.out
            clear HA
            simp only [val_symbol.l0] at H
            by_cases c9 : x20_2 < (a0.size : Int)
            · rw [if_pos c9] at H
              have c9b0 : decide (x20_2 < (a0.size : Int)) = true := decide_eq_true c9
              clear c9
              by_cases c10 : 0 ≤ x20_2
              · rw [if_pos c10] at H
                have c10b0 : decide (0 ≤ x20_2) = true := decide_eq_true c10
                clear c10
                by_cases c11 : x20_2 < (a0.size : Int)
                · rw [if_pos c11] at H
                  have c11b0 : decide (x20_2 < (a0.size : Int)) = true := decide_eq_true c11
                  clear c11
                  replace H := Option.bind_eq_some_iff.mp H
                  obtain ⟨t212, A130, H⟩ := H
                  replace H : (if t212 = true then (val_symbol.l0 k2 a0 (a0.size : Int) (wrap64 (x20_2 + 1))) else ((val_large.f (bt a0 x20_2)).bind fun t213 => (if t213 = true then (val_symbol.l0 k2 a0 (a0.size : Int) (wrap64 (x20_2 + 1))) else ((val_digit.f (bt a0 x20_2)).bind fun t214 => (if t214 = true then (val_symbol.l0 k2 a0 (a0.size : Int) (wrap64 (x20_2 + 1))) else (if (bt a0 x20_2) = 95 then (val_symbol.l0 k2 a0 (a0.size : Int) (wrap64 (x20_2 + 1))) else (some false))))))) = some r := H
                  have A13 := Aside0.mk A130
                  clear A130
                  by_cases c14 : t212 = true
                  · subst c14
                    have H1 : (val_symbol.l0 k2 a0 (a0.size : Int) (wrap64 (x20_2 + 1))) = some r := by rw [if_pos rfl] at H; exact H
                    clear H
                    have H := H1
                    clear H1
                    have H' := Aside0.mk H
                    clear H
                    have p12 : 0 ≤ (x20_2 : Int) := dt_
                    have q12 : x20_2 < (a0.size : Int) := dt_
                    have hx12 := bt_at a0 x20_2
                    replace p12 := eq_true p12
                    replace q12 := eq_true q12
                    go_wp2_with (first | ((with_reducible refine gate_callee (f := 64) rfl ?_); refine goesL_ (some 26) rfl rfl Try.func64 (by kernel_rfl) rfl #[.int .u8 (bt a0 x20_2)] rfl ga_ ?_; (with_reducible refine (val_small.calls (bt a0 x20_2) true _ A13.out).mono ?_); rintro e w' ⟨rfl, ⟨nd, rfl⟩⟩; refine ⟨_, rfl, ?_⟩))
                    go_roundg k2
                    case measure => have := HJ1.out; have := HK2.out; omega
                    case rel => exact ⟨(wrap64 (x20_2 + 1)), ra_, H', ⟨by have := HJ1.out; have := HK2.out; omega⟩, dz_⟩
                  · replace c14 := Bool.eq_false_iff.mpr c14
                    subst c14
                    have H1 : ((val_large.f (bt a0 x20_2)).bind fun t213 => (if t213 = true then (val_symbol.l0 k2 a0 (a0.size : Int) (wrap64 (x20_2 + 1))) else ((val_digit.f (bt a0 x20_2)).bind fun t214 => (if t214 = true then (val_symbol.l0 k2 a0 (a0.size : Int) (wrap64 (x20_2 + 1))) else (if (bt a0 x20_2) = 95 then (val_symbol.l0 k2 a0 (a0.size : Int) (wrap64 (x20_2 + 1))) else (some false)))))) = some r := by rw [if_neg (show ¬ (false = true) by decide)] at H; exact H
                    clear H
                    have H := H1
                    clear H1
                    replace H := Option.bind_eq_some_iff.mp H
                    obtain ⟨t213, A160, H⟩ := H
                    replace H : (if t213 = true then (val_symbol.l0 k2 a0 (a0.size : Int) (wrap64 (x20_2 + 1))) else ((val_digit.f (bt a0 x20_2)).bind fun t214 => (if t214 = true then (val_symbol.l0 k2 a0 (a0.size : Int) (wrap64 (x20_2 + 1))) else (if (bt a0 x20_2) = 95 then (val_symbol.l0 k2 a0 (a0.size : Int) (wrap64 (x20_2 + 1))) else (some false))))) = some r := H
                    have A16 := Aside0.mk A160
                    clear A160
                    by_cases c17 : t213 = true
                    · subst c17
                      have H1 : (val_symbol.l0 k2 a0 (a0.size : Int) (wrap64 (x20_2 + 1))) = some r := by rw [if_pos rfl] at H; exact H
                      clear H
                      have H := H1
                      clear H1
                      have H' := Aside0.mk H
                      clear H
                      have p12 : 0 ≤ (x20_2 : Int) := dt_
                      have q12 : x20_2 < (a0.size : Int) := dt_
                      have hx12 := bt_at a0 x20_2
                      replace p12 := eq_true p12
                      replace q12 := eq_true q12
                      go_wp2_with (first | ((with_reducible refine gate_callee (f := 64) rfl ?_); refine goesL_ (some 26) rfl rfl Try.func64 (by kernel_rfl) rfl #[.int .u8 (bt a0 x20_2)] rfl ga_ ?_; (with_reducible refine (val_small.calls (bt a0 x20_2) false _ A13.out).mono ?_); rintro e w' ⟨rfl, ⟨nd, rfl⟩⟩; refine ⟨_, rfl, ?_⟩; have p15 : 0 ≤ (x20_2 : Int) := dt_; have q15 : x20_2 < (a0.size : Int) := dt_; have hx15 := bt_at a0 x20_2; replace p15 := eq_true p15; replace q15 := eq_true q15) | (go_at_call 65; (with_reducible refine (val_large.calls (bt a0 x20_2) true _ A16.out).mono ?_); rintro e w' ⟨rfl, ⟨nd, rfl⟩⟩))
                      go_roundg k2
                      case measure => have := HJ1.out; have := HK2.out; omega
                      case rel => exact ⟨(wrap64 (x20_2 + 1)), ra_, H', ⟨by have := HJ1.out; have := HK2.out; omega⟩, dz_⟩
                    · replace c17 := Bool.eq_false_iff.mpr c17
                      subst c17
                      have H1 : ((val_digit.f (bt a0 x20_2)).bind fun t214 => (if t214 = true then (val_symbol.l0 k2 a0 (a0.size : Int) (wrap64 (x20_2 + 1))) else (if (bt a0 x20_2) = 95 then (val_symbol.l0 k2 a0 (a0.size : Int) (wrap64 (x20_2 + 1))) else (some false)))) = some r := by rw [if_neg (show ¬ (false = true) by decide)] at H; exact H
                      clear H
                      have H := H1
                      clear H1
                      replace H := Option.bind_eq_some_iff.mp H
                      obtain ⟨t214, A190, H⟩ := H
                      replace H : (if t214 = true then (val_symbol.l0 k2 a0 (a0.size : Int) (wrap64 (x20_2 + 1))) else (if (bt a0 x20_2) = 95 then (val_symbol.l0 k2 a0 (a0.size : Int) (wrap64 (x20_2 + 1))) else (some false))) = some r := H
                      have A19 := Aside0.mk A190
                      clear A190
                      by_cases c20 : t214 = true
                      · subst c20
                        have H1 : (val_symbol.l0 k2 a0 (a0.size : Int) (wrap64 (x20_2 + 1))) = some r := by rw [if_pos rfl] at H; exact H
                        clear H
                        have H := H1
                        clear H1
                        have H' := Aside0.mk H
                        clear H
                        have p12 : 0 ≤ (x20_2 : Int) := dt_
                        have q12 : x20_2 < (a0.size : Int) := dt_
                        have hx12 := bt_at a0 x20_2
                        replace p12 := eq_true p12
                        replace q12 := eq_true q12
                        go_wp2_with (first | ((with_reducible refine gate_callee (f := 64) rfl ?_); refine goesL_ (some 26) rfl rfl Try.func64 (by kernel_rfl) rfl #[.int .u8 (bt a0 x20_2)] rfl ga_ ?_; (with_reducible refine (val_small.calls (bt a0 x20_2) false _ A13.out).mono ?_); rintro e w' ⟨rfl, ⟨nd, rfl⟩⟩; refine ⟨_, rfl, ?_⟩; have p15 : 0 ≤ (x20_2 : Int) := dt_; have q15 : x20_2 < (a0.size : Int) := dt_; have hx15 := bt_at a0 x20_2; replace p15 := eq_true p15; replace q15 := eq_true q15) | (go_at_call 65; (with_reducible refine (val_large.calls (bt a0 x20_2) false _ A16.out).mono ?_); rintro e w' ⟨rfl, ⟨nd, rfl⟩⟩; have p18 : 0 ≤ (x20_2 : Int) := dt_; have q18 : x20_2 < (a0.size : Int) := dt_; have hx18 := bt_at a0 x20_2; replace p18 := eq_true p18; replace q18 := eq_true q18) | (go_at_call 66; (with_reducible refine (val_digit.calls (bt a0 x20_2) true _ A19.out).mono ?_); rintro e w' ⟨rfl, ⟨nd, rfl⟩⟩))
                        go_roundg k2
                        case measure => have := HJ1.out; have := HK2.out; omega
                        case rel => exact ⟨(wrap64 (x20_2 + 1)), ra_, H', ⟨by have := HJ1.out; have := HK2.out; omega⟩, dz_⟩
                      · replace c20 := Bool.eq_false_iff.mpr c20
                        subst c20
                        have H1 : (if (bt a0 x20_2) = 95 then (val_symbol.l0 k2 a0 (a0.size : Int) (wrap64 (x20_2 + 1))) else (some false)) = some r := by rw [if_neg (show ¬ (false = true) by decide)] at H; exact H
                        clear H
                        have H := H1
                        clear H1
                        by_cases c22 : (bt a0 x20_2) = 95
                        · rw [if_pos c22] at H
                          obtain ⟨c22b0, c22b1⟩ := eqB_ c22
                          clear c22
                          have H' := Aside0.mk H
                          clear H
                          have p12 : 0 ≤ (x20_2 : Int) := dt_
                          have q12 : x20_2 < (a0.size : Int) := dt_
                          have hx12 := bt_at a0 x20_2
                          replace p12 := eq_true p12
                          replace q12 := eq_true q12
                          go_wp2_with (first | ((with_reducible refine gate_callee (f := 64) rfl ?_); refine goesL_ (some 26) rfl rfl Try.func64 (by kernel_rfl) rfl #[.int .u8 (bt a0 x20_2)] rfl ga_ ?_; (with_reducible refine (val_small.calls (bt a0 x20_2) false _ A13.out).mono ?_); rintro e w' ⟨rfl, ⟨nd, rfl⟩⟩; refine ⟨_, rfl, ?_⟩; have p15 : 0 ≤ (x20_2 : Int) := dt_; have q15 : x20_2 < (a0.size : Int) := dt_; have hx15 := bt_at a0 x20_2; replace p15 := eq_true p15; replace q15 := eq_true q15) | (go_at_call 65; (with_reducible refine (val_large.calls (bt a0 x20_2) false _ A16.out).mono ?_); rintro e w' ⟨rfl, ⟨nd, rfl⟩⟩; have p18 : 0 ≤ (x20_2 : Int) := dt_; have q18 : x20_2 < (a0.size : Int) := dt_; have hx18 := bt_at a0 x20_2; replace p18 := eq_true p18; replace q18 := eq_true q18) | (go_at_call 66; (with_reducible refine (val_digit.calls (bt a0 x20_2) false _ A19.out).mono ?_); rintro e w' ⟨rfl, ⟨nd, rfl⟩⟩; have p21 : 0 ≤ (x20_2 : Int) := dt_; have q21 : x20_2 < (a0.size : Int) := dt_; have hx21 := bt_at a0 x20_2; replace p21 := eq_true p21; replace q21 := eq_true q21))
                          go_roundg k2
                          case measure => have := HJ1.out; have := HK2.out; omega
                          case rel => exact ⟨(wrap64 (x20_2 + 1)), ra_, H', ⟨by have := HJ1.out; have := HK2.out; omega⟩, dz_⟩
                        · rw [if_neg c22] at H
                          obtain ⟨c22b0, c22b1⟩ := neB_ c22
                          obtain rfl := Option.some.inj H
                          have p12 : 0 ≤ (x20_2 : Int) := dt_
                          have q12 : x20_2 < (a0.size : Int) := dt_
                          have hx12 := bt_at a0 x20_2
                          replace p12 := eq_true p12
                          replace q12 := eq_true q12
                          go_wp2_with (first | ((with_reducible refine gate_callee (f := 64) rfl ?_); refine goesL_ (some 26) rfl rfl Try.func64 (by kernel_rfl) rfl #[.int .u8 (bt a0 x20_2)] rfl ga_ ?_; (with_reducible refine (val_small.calls (bt a0 x20_2) false _ A13.out).mono ?_); rintro e w' ⟨rfl, ⟨nd, rfl⟩⟩; refine ⟨_, rfl, ?_⟩; have p15 : 0 ≤ (x20_2 : Int) := dt_; have q15 : x20_2 < (a0.size : Int) := dt_; have hx15 := bt_at a0 x20_2; replace p15 := eq_true p15; replace q15 := eq_true q15) | (go_at_call 65; (with_reducible refine (val_large.calls (bt a0 x20_2) false _ A16.out).mono ?_); rintro e w' ⟨rfl, ⟨nd, rfl⟩⟩; have p18 : 0 ≤ (x20_2 : Int) := dt_; have q18 : x20_2 < (a0.size : Int) := dt_; have hx18 := bt_at a0 x20_2; replace p18 := eq_true p18; replace q18 := eq_true q18) | (go_at_call 66; (with_reducible refine (val_digit.calls (bt a0 x20_2) false _ A19.out).mono ?_); rintro e w' ⟨rfl, ⟨nd, rfl⟩⟩; have p21 : 0 ≤ (x20_2 : Int) := dt_; have q21 : x20_2 < (a0.size : Int) := dt_; have hx21 := bt_at a0 x20_2; replace p21 := eq_true p21; replace q21 := eq_true q21))
                          go_ret
                          exact rz_
                · rw [if_neg c11] at H
                  exact absurd H (by simp)
              · rw [if_neg c10] at H
                exact absurd H (by simp)
            · rw [if_neg c9] at H
              have c9b0 : decide (x20_2 < (a0.size : Int)) = false := decide_eq_false c9
              clear c9
              obtain rfl := Option.some.inj H
              go_wp2
              go_ret
              exact rz_
end Go.Proofs.Ytconpnagoijacaa.P
end
section
namespace Go.Proofs.Ytconpnagoijacaa.P
open Go.RowKit Go.Proofs.YtconpnagoijacaaW.PrintWords Go.Proofs.YtconpnagoijacaaW.PrintLast Go.Proofs.YtconpnagoijacaaW.PrintMore
attribute [local go_sem] max2_int min2_int max_two min_two max_three min_three max_four min_four
set_option linter.unusedVariables false
set_option linter.unusedSimpArgs false
def val_plain.l0 : Nat → ByteArray → Int → Int → Option (Bool)
  | 0, _, _, _ => none
  | k + 1, x0, x5, x6 => if x6 < x5 then (if 0 ≤ x6 then (if x6 < (x0.size : Int) then (if (bt x0 x6) < 32 then (some false) else (if (bt x0 x6) > 126 then (some false) else (val_plain.l0 k x0 x5 (wrap64 (x6 + 1))))) else (none)) else (none)) else (some (decide ((x0.size : Int) ≤ 60)))
def val_plain.f (k : Nat) (a0 : ByteArray) : Option (Bool) := val_plain.l0 k a0 (a0.size : Int) 0
theorem val_plain.mono_l : ∀ k, (∀ y0 y1 y2, LeO (val_plain.l0 k y0 y1 y2) (val_plain.l0 (k + 1) y0 y1 y2))
  | 0 => fun _ _ _ r h => by simp [val_plain.l0] at h
  | k + 1 => by
    have ih0 := val_plain.mono_l k
    · intro y0 y1 y2
      unfold val_plain.l0
      repeat' first
      | (with_reducible exact ih0 _ _ _)
      | (with_reducible exact LeO.refl _)
      | (with_reducible exact LeO.none _)
      | (with_reducible refine LeO.ite ?_ ?_)
      | (with_reducible refine LeO.bind ?_ (fun _ => ?_))
      | exact ih0 _ _ _
      | exact LeO.none _
      | refine LeO.ite ?_ ?_
      | refine LeO.bind ?_ (fun _ => ?_)
theorem val_plain.mono : ∀ a0 k, LeO (val_plain.f k a0) (val_plain.f (k + 1) a0) := by
  intro a0 k
  have ih0 := val_plain.mono_l k
  unfold val_plain.f
  repeat' first
      | (with_reducible exact ih0 _ _ _)
      | (with_reducible exact LeO.refl _)
      | (with_reducible exact LeO.none _)
      | (with_reducible refine LeO.ite ?_ ?_)
      | (with_reducible refine LeO.bind ?_ (fun _ => ?_))
      | exact ih0 _ _ _
      | exact LeO.none _
      | refine LeO.ite ?_ ?_
      | refine LeO.bind ?_ (fun _ => ?_)
set_option maxHeartbeats 8000000 in
set_option maxRecDepth 100000 in
theorem val_plain.calls (k : Nat) (a0 : ByteArray) (r : Bool) (w : World) (h : val_plain.f k a0 = some r) :
    Calls Try.prog 63 #[.string a0] w fun e w' => e = .returned (.bool r) ∧ Drawn0 w w' := by
  have H : (val_plain.l0 k a0 (a0.size : Int) 0) = some r := h
  clear h
  have H' := Aside0.mk H
  clear H
  go_enter Try.func63, Try.ntmps63
  go_wp2
  go_loopg [6] k (fun kq v6 w' => ∃ (x6_1 : Int), v6 = .int .i64 x6_1 ∧ Aside0 (val_plain.l0 kq a0 (a0.size : Int) x6_1 = some r) ∧ Aside0 (kq ≤ k) ∧ Drawn0 w w')
  case atStart => exact ⟨(0), ra_, H', ⟨Nat.le_refl _⟩, dz_⟩
  case round =>
    clear H'
    obtain ⟨x6_1, rfl, HA, HK1, ⟨m1, rfl⟩⟩ := hrel
    cases gk with
    | zero => exact absurd HA.out (by simp [val_plain.l0])
    | succ k1 =>
      have H := HA.out
      clear HA
      simp only [val_plain.l0] at H
      by_cases c2 : x6_1 < (a0.size : Int)
      · rw [if_pos c2] at H
        have c2b0 : decide (x6_1 < (a0.size : Int)) = true := decide_eq_true c2
        clear c2
        by_cases c3 : 0 ≤ x6_1
        · rw [if_pos c3] at H
          have c3b0 : decide (0 ≤ x6_1) = true := decide_eq_true c3
          clear c3
          by_cases c4 : x6_1 < (a0.size : Int)
          · rw [if_pos c4] at H
            have c4b0 : decide (x6_1 < (a0.size : Int)) = true := decide_eq_true c4
            clear c4
            by_cases c6 : (bt a0 x6_1) < 32
            · rw [if_pos c6] at H
              have c6b0 : decide ((bt a0 x6_1) < 32) = true := decide_eq_true c6
              clear c6
              obtain rfl := Option.some.inj H
              have p5 : 0 ≤ (x6_1 : Int) := dt_
              have q5 : x6_1 < (a0.size : Int) := dt_
              have hx5 := bt_at a0 x6_1
              replace p5 := eq_true p5
              replace q5 := eq_true q5
              go_wp2
              go_ret
              exact rz_
            · rw [if_neg c6] at H
              have c6b0 : decide ((bt a0 x6_1) < 32) = false := decide_eq_false c6
              clear c6
              by_cases c8 : (bt a0 x6_1) > 126
              · rw [if_pos c8] at H
                have c8b0 : decide (126 < (bt a0 x6_1)) = true := decide_eq_true c8
                clear c8
                obtain rfl := Option.some.inj H
                have p5 : 0 ≤ (x6_1 : Int) := dt_
                have q5 : x6_1 < (a0.size : Int) := dt_
                have hx5 := bt_at a0 x6_1
                replace p5 := eq_true p5
                replace q5 := eq_true q5
                have p7 : 0 ≤ (x6_1 : Int) := dt_
                have q7 : x6_1 < (a0.size : Int) := dt_
                have hx7 := bt_at a0 x6_1
                replace p7 := eq_true p7
                replace q7 := eq_true q7
                go_wp2
                go_ret
                exact rz_
              · rw [if_neg c8] at H
                have c8b0 : decide (126 < (bt a0 x6_1)) = false := decide_eq_false c8
                clear c8
                have H' := Aside0.mk H
                clear H
                have p5 : 0 ≤ (x6_1 : Int) := dt_
                have q5 : x6_1 < (a0.size : Int) := dt_
                have hx5 := bt_at a0 x6_1
                replace p5 := eq_true p5
                replace q5 := eq_true q5
                have p7 : 0 ≤ (x6_1 : Int) := dt_
                have q7 : x6_1 < (a0.size : Int) := dt_
                have hx7 := bt_at a0 x6_1
                replace p7 := eq_true p7
                replace q7 := eq_true q7
                go_wp2
                go_roundg k1
                case measure => have := HK1.out; omega
                case rel => exact ⟨(wrap64 (x6_1 + 1)), ra_, H', ⟨by have := HK1.out; omega⟩, dz_⟩
          · rw [if_neg c4] at H
            exact absurd H (by simp)
        · rw [if_neg c3] at H
          exact absurd H (by simp)
      · rw [if_neg c2] at H
        have c2b0 : decide (x6_1 < (a0.size : Int)) = false := decide_eq_false c2
        clear c2
        obtain rfl := Option.some.inj H
        go_wp2
        go_ret
        exact rz_
end Go.Proofs.Ytconpnagoijacaa.P
end
section
namespace Go.Proofs.Ytconpnagoijacaa.P
open Go.RowKit Go.Proofs.YtconpnagoijacaaW.PrintWords Go.Proofs.YtconpnagoijacaaW.PrintLast Go.Proofs.YtconpnagoijacaaW.PrintMore
attribute [local go_sem] max2_int min2_int max_two min_two max_three min_three max_four min_four
set_option linter.unusedVariables false
set_option linter.unusedSimpArgs false
def val_Check.f (k : Nat) (a0_0 : Int) (a0_1 : Int) (a0_2 : ByteArray) : Option (Int) := if a0_0 = 1 then (if a0_1 ≥ (-4611686018427387904) then (if a0_1 ≤ 4611686018427387904 then (if (a0_2.toList = ([] : List UInt8)) then (some 0) else (some 1)) else (some 1)) else (some 1)) else (if a0_0 = 2 then (if a0_1 = 0 then ((val_symbol.f k a0_2).bind fun t216 => (if t216 = true then (some 0) else (some 1))) else (some 1)) else (if a0_0 = 3 then (if a0_1 = 0 then ((val_plain.f k a0_2).bind fun t217 => (if t217 = true then (some 0) else (some 1))) else (some 1)) else (some 1)))
theorem val_Check.mono : ∀ a0 a1 a2 k, LeO (val_Check.f k a0 a1 a2) (val_Check.f (k + 1) a0 a1 a2) := by
  intro a0 a1 a2 k
  unfold val_Check.f
  repeat' first
      | (with_reducible exact val_plain.mono _ _)
      | (with_reducible exact val_symbol.mono _ _)
      | (with_reducible exact LeO.refl _)
      | (with_reducible exact LeO.none _)
      | (with_reducible refine LeO.ite ?_ ?_)
      | (with_reducible refine LeO.bind ?_ (fun _ => ?_))
      | exact val_plain.mono _ _
      | exact val_symbol.mono _ _
      | exact LeO.none _
      | refine LeO.ite ?_ ?_
      | refine LeO.bind ?_ (fun _ => ?_)
set_option maxHeartbeats 8000000 in
set_option maxRecDepth 100000 in
theorem val_Check.calls (k : Nat) (a0_0 : Int) (a0_1 : Int) (a0_2 : ByteArray) (r : Int) (w : World) (h : val_Check.f k a0_0 a0_1 a0_2 = some r) :
    Calls Try.prog 58 #[.agg #[.int .i64 a0_0, .int .i64 a0_1, .string a0_2]] w fun e w' => e = .returned (.int .i64 r) ∧ Below w.heap.size w w' := by
  have hu40 := Try.underlying40
  have HB := Aside0.mk (Below.refl w.heap.size w)
  have H : (if a0_0 = 1 then (if a0_1 ≥ (-4611686018427387904) then (if a0_1 ≤ 4611686018427387904 then (if (a0_2.toList = ([] : List UInt8)) then (some 0) else (some 1)) else (some 1)) else (some 1)) else (if a0_0 = 2 then (if a0_1 = 0 then ((val_symbol.f k a0_2).bind fun t216 => (if t216 = true then (some 0) else (some 1))) else (some 1)) else (if a0_0 = 3 then (if a0_1 = 0 then ((val_plain.f k a0_2).bind fun t217 => (if t217 = true then (some 0) else (some 1))) else (some 1)) else (some 1)))) = some r := h
  clear h
  by_cases c2 : a0_0 = 1
  · rw [if_pos c2] at H
    obtain ⟨c2b0, c2b1⟩ := eqB_ c2
    clear c2
    by_cases c3 : a0_1 ≥ (-4611686018427387904)
    · rw [if_pos c3] at H
      have c3b0 : decide ((-4611686018427387904) ≤ a0_1) = true := decide_eq_true c3
      clear c3
      by_cases c4 : a0_1 ≤ 4611686018427387904
      · rw [if_pos c4] at H
        have c4b0 : decide (a0_1 ≤ 4611686018427387904) = true := decide_eq_true c4
        clear c4
        by_cases c5 : (a0_2.toList = ([] : List UInt8))
        · rw [if_pos c5] at H
          obtain ⟨c5b0, c5b1⟩ := eqB_ c5
          clear c5
          obtain rfl := Option.some.inj H
          go_enter Try.func58, Try.ntmps58
          go_wp2_with (first | ((with_reducible refine gate_dst (N := 1) rfl ?_); refine box_event ?hg (N := 1) ?hd (cs := #[.int .i64 a0_0, .int .i64 a0_1, .string a0_2]) (t := 40) ?hr ?_; (case hd => rfl); (case hg => rfl); (case hr => first | (go_simp; done) | (go_simp; rfl)); intro gb215 hg w6 hbox hb; have n0_ := bs_ (be_ HB) hb; have n1_ := Aside0.mk (hbox); have n2_ := gs_ hg (be_ HB); have n3_ := gs_ hg (be_ HB); clear HB; have HB := n0_; have BK215 := n1_; have GW215 := n2_; have GE215 := n3_; clear n0_ n1_ n2_ n3_; clear hb hbox hg; have hcz7_0 : w6.cell? ⟨gb215, 0, none⟩ = some (.int .i64 a0_0) := (blk_cell BK215.out 0).trans rfl; have hcz7_1 : w6.cell? ⟨gb215, 1, none⟩ = some (.int .i64 a0_1) := (blk_cell BK215.out 1).trans rfl; have hcz7_2 : w6.cell? ⟨gb215, 2, none⟩ = some (.string a0_2) := (blk_cell BK215.out 2).trans rfl; have hfz7_0 := blk_frozen BK215.out 0; have hfz7_1 := blk_frozen BK215.out 1; have hfz7_2 := blk_frozen BK215.out 2))
          go_ret
          exact ⟨by first | rfl | (simp [errW_none, errW_some] <;> rfl) | (simp [*, errW_none, errW_some] <;> rfl), by repeat (first | (with_reducible first | exact HB.out | apply below_alloc | apply pw_below_drewN | apply below_drew1 | refine below_set ?_ GE215.out) | exact HB.out)⟩
        · rw [if_neg c5] at H
          obtain ⟨c5b0, c5b1⟩ := neB_ c5
          obtain rfl := Option.some.inj H
          go_enter Try.func58, Try.ntmps58
          go_wp2_with (first | ((with_reducible refine gate_dst (N := 1) rfl ?_); refine box_event ?hg (N := 1) ?hd (cs := #[.int .i64 a0_0, .int .i64 a0_1, .string a0_2]) (t := 40) ?hr ?_; (case hd => rfl); (case hg => rfl); (case hr => first | (go_simp; done) | (go_simp; rfl)); intro gb215 hg w8 hbox hb; have n0_ := bs_ (be_ HB) hb; have n1_ := Aside0.mk (hbox); have n2_ := gs_ hg (be_ HB); have n3_ := gs_ hg (be_ HB); clear HB; have HB := n0_; have BK215 := n1_; have GW215 := n2_; have GE215 := n3_; clear n0_ n1_ n2_ n3_; clear hb hbox hg; have hcz9_0 : w8.cell? ⟨gb215, 0, none⟩ = some (.int .i64 a0_0) := (blk_cell BK215.out 0).trans rfl; have hcz9_1 : w8.cell? ⟨gb215, 1, none⟩ = some (.int .i64 a0_1) := (blk_cell BK215.out 1).trans rfl; have hcz9_2 : w8.cell? ⟨gb215, 2, none⟩ = some (.string a0_2) := (blk_cell BK215.out 2).trans rfl; have hfz9_0 := blk_frozen BK215.out 0; have hfz9_1 := blk_frozen BK215.out 1; have hfz9_2 := blk_frozen BK215.out 2))
          go_ret
          exact ⟨by first | rfl | (simp [errW_none, errW_some] <;> rfl) | (simp [*, errW_none, errW_some] <;> rfl), by repeat (first | (with_reducible first | exact HB.out | apply below_alloc | apply pw_below_drewN | apply below_drew1 | refine below_set ?_ GE215.out) | exact HB.out)⟩
      · rw [if_neg c4] at H
        have c4b0 : decide (a0_1 ≤ 4611686018427387904) = false := decide_eq_false c4
        clear c4
        obtain rfl := Option.some.inj H
        go_enter Try.func58, Try.ntmps58
        go_wp2_with (first | ((with_reducible refine gate_dst (N := 1) rfl ?_); refine box_event ?hg (N := 1) ?hd (cs := #[.int .i64 a0_0, .int .i64 a0_1, .string a0_2]) (t := 40) ?hr ?_; (case hd => rfl); (case hg => rfl); (case hr => first | (go_simp; done) | (go_simp; rfl)); intro gb215 hg w10 hbox hb; have n0_ := bs_ (be_ HB) hb; have n1_ := Aside0.mk (hbox); have n2_ := gs_ hg (be_ HB); have n3_ := gs_ hg (be_ HB); clear HB; have HB := n0_; have BK215 := n1_; have GW215 := n2_; have GE215 := n3_; clear n0_ n1_ n2_ n3_; clear hb hbox hg; have hcz11_0 : w10.cell? ⟨gb215, 0, none⟩ = some (.int .i64 a0_0) := (blk_cell BK215.out 0).trans rfl; have hcz11_1 : w10.cell? ⟨gb215, 1, none⟩ = some (.int .i64 a0_1) := (blk_cell BK215.out 1).trans rfl; have hcz11_2 : w10.cell? ⟨gb215, 2, none⟩ = some (.string a0_2) := (blk_cell BK215.out 2).trans rfl; have hfz11_0 := blk_frozen BK215.out 0; have hfz11_1 := blk_frozen BK215.out 1; have hfz11_2 := blk_frozen BK215.out 2))
        go_ret
        exact ⟨by first | rfl | (simp [errW_none, errW_some] <;> rfl) | (simp [*, errW_none, errW_some] <;> rfl), by repeat (first | (with_reducible first | exact HB.out | apply below_alloc | apply pw_below_drewN | apply below_drew1 | refine below_set ?_ GE215.out) | exact HB.out)⟩
    · rw [if_neg c3] at H
      have c3b0 : decide ((-4611686018427387904) ≤ a0_1) = false := decide_eq_false c3
      clear c3
      obtain rfl := Option.some.inj H
      go_enter Try.func58, Try.ntmps58
      go_wp2_with (first | ((with_reducible refine gate_dst (N := 1) rfl ?_); refine box_event ?hg (N := 1) ?hd (cs := #[.int .i64 a0_0, .int .i64 a0_1, .string a0_2]) (t := 40) ?hr ?_; (case hd => rfl); (case hg => rfl); (case hr => first | (go_simp; done) | (go_simp; rfl)); intro gb215 hg w12 hbox hb; have n0_ := bs_ (be_ HB) hb; have n1_ := Aside0.mk (hbox); have n2_ := gs_ hg (be_ HB); have n3_ := gs_ hg (be_ HB); clear HB; have HB := n0_; have BK215 := n1_; have GW215 := n2_; have GE215 := n3_; clear n0_ n1_ n2_ n3_; clear hb hbox hg; have hcz13_0 : w12.cell? ⟨gb215, 0, none⟩ = some (.int .i64 a0_0) := (blk_cell BK215.out 0).trans rfl; have hcz13_1 : w12.cell? ⟨gb215, 1, none⟩ = some (.int .i64 a0_1) := (blk_cell BK215.out 1).trans rfl; have hcz13_2 : w12.cell? ⟨gb215, 2, none⟩ = some (.string a0_2) := (blk_cell BK215.out 2).trans rfl; have hfz13_0 := blk_frozen BK215.out 0; have hfz13_1 := blk_frozen BK215.out 1; have hfz13_2 := blk_frozen BK215.out 2))
      go_ret
      exact ⟨by first | rfl | (simp [errW_none, errW_some] <;> rfl) | (simp [*, errW_none, errW_some] <;> rfl), by repeat (first | (with_reducible first | exact HB.out | apply below_alloc | apply pw_below_drewN | apply below_drew1 | refine below_set ?_ GE215.out) | exact HB.out)⟩
  · rw [if_neg c2] at H
    obtain ⟨c2b0, c2b1⟩ := neB_ c2
    by_cases c14 : a0_0 = 2
    · rw [if_pos c14] at H
      obtain ⟨c14b0, c14b1⟩ := eqB_ c14
      clear c14
      by_cases c15 : a0_1 = 0
      · rw [if_pos c15] at H
        obtain ⟨c15b0, c15b1⟩ := eqB_ c15
        clear c15
        replace H := Option.bind_eq_some_iff.mp H
        obtain ⟨t216, A160, H⟩ := H
        replace H : (if t216 = true then (some 0) else (some 1)) = some r := H
        have A16 := Aside0.mk A160
        clear A160
        by_cases c17 : t216 = true
        · subst c17
          have H1 : (some 0) = some r := by rw [if_pos rfl] at H; exact H
          clear H
          have H := H1
          clear H1
          obtain rfl := Option.some.inj H
          go_enter Try.func58, Try.ntmps58
          go_wp2_with (first | ((with_reducible refine gate_dst (N := 1) rfl ?_); refine box_event ?hg (N := 1) ?hd (cs := #[.int .i64 a0_0, .int .i64 a0_1, .string a0_2]) (t := 40) ?hr ?_; (case hd => rfl); (case hg => rfl); (case hr => first | (go_simp; done) | (go_simp; rfl)); intro gb215 hg w18 hbox hb; have n0_ := bs_ (be_ HB) hb; have n1_ := Aside0.mk (hbox); have n2_ := gs_ hg (be_ HB); have n3_ := gs_ hg (be_ HB); clear HB; have HB := n0_; have BK215 := n1_; have GW215 := n2_; have GE215 := n3_; clear n0_ n1_ n2_ n3_; clear hb hbox hg; have hcz19_0 : w18.cell? ⟨gb215, 0, none⟩ = some (.int .i64 a0_0) := (blk_cell BK215.out 0).trans rfl; have hcz19_1 : w18.cell? ⟨gb215, 1, none⟩ = some (.int .i64 a0_1) := (blk_cell BK215.out 1).trans rfl; have hcz19_2 : w18.cell? ⟨gb215, 2, none⟩ = some (.string a0_2) := (blk_cell BK215.out 2).trans rfl; have hfz19_0 := blk_frozen BK215.out 0; have hfz19_1 := blk_frozen BK215.out 1; have hfz19_2 := blk_frozen BK215.out 2) | (go_at_call 62; (with_reducible refine (val_symbol.calls k a0_2 true _ A16.out).mono ?_); rintro e w' ⟨rfl, ⟨nd, rfl⟩⟩))
          go_ret
          exact ⟨by first | rfl | (simp [errW_none, errW_some] <;> rfl) | (simp [*, errW_none, errW_some] <;> rfl), by repeat (first | (with_reducible first | exact HB.out | apply below_alloc | apply pw_below_drewN | apply below_drew1 | refine below_set ?_ GE215.out) | exact HB.out)⟩
        · replace c17 := Bool.eq_false_iff.mpr c17
          subst c17
          have H1 : (some 1) = some r := by rw [if_neg (show ¬ (false = true) by decide)] at H; exact H
          clear H
          have H := H1
          clear H1
          obtain rfl := Option.some.inj H
          go_enter Try.func58, Try.ntmps58
          go_wp2_with (first | ((with_reducible refine gate_dst (N := 1) rfl ?_); refine box_event ?hg (N := 1) ?hd (cs := #[.int .i64 a0_0, .int .i64 a0_1, .string a0_2]) (t := 40) ?hr ?_; (case hd => rfl); (case hg => rfl); (case hr => first | (go_simp; done) | (go_simp; rfl)); intro gb215 hg w20 hbox hb; have n0_ := bs_ (be_ HB) hb; have n1_ := Aside0.mk (hbox); have n2_ := gs_ hg (be_ HB); have n3_ := gs_ hg (be_ HB); clear HB; have HB := n0_; have BK215 := n1_; have GW215 := n2_; have GE215 := n3_; clear n0_ n1_ n2_ n3_; clear hb hbox hg; have hcz21_0 : w20.cell? ⟨gb215, 0, none⟩ = some (.int .i64 a0_0) := (blk_cell BK215.out 0).trans rfl; have hcz21_1 : w20.cell? ⟨gb215, 1, none⟩ = some (.int .i64 a0_1) := (blk_cell BK215.out 1).trans rfl; have hcz21_2 : w20.cell? ⟨gb215, 2, none⟩ = some (.string a0_2) := (blk_cell BK215.out 2).trans rfl; have hfz21_0 := blk_frozen BK215.out 0; have hfz21_1 := blk_frozen BK215.out 1; have hfz21_2 := blk_frozen BK215.out 2) | (go_at_call 62; (with_reducible refine (val_symbol.calls k a0_2 false _ A16.out).mono ?_); rintro e w' ⟨rfl, ⟨nd, rfl⟩⟩))
          go_ret
          exact ⟨by first | rfl | (simp [errW_none, errW_some] <;> rfl) | (simp [*, errW_none, errW_some] <;> rfl), by repeat (first | (with_reducible first | exact HB.out | apply below_alloc | apply pw_below_drewN | apply below_drew1 | refine below_set ?_ GE215.out) | exact HB.out)⟩
      · rw [if_neg c15] at H
        obtain ⟨c15b0, c15b1⟩ := neB_ c15
        obtain rfl := Option.some.inj H
        go_enter Try.func58, Try.ntmps58
        go_wp2_with (first | ((with_reducible refine gate_dst (N := 1) rfl ?_); refine box_event ?hg (N := 1) ?hd (cs := #[.int .i64 a0_0, .int .i64 a0_1, .string a0_2]) (t := 40) ?hr ?_; (case hd => rfl); (case hg => rfl); (case hr => first | (go_simp; done) | (go_simp; rfl)); intro gb215 hg w22 hbox hb; have n0_ := bs_ (be_ HB) hb; have n1_ := Aside0.mk (hbox); have n2_ := gs_ hg (be_ HB); have n3_ := gs_ hg (be_ HB); clear HB; have HB := n0_; have BK215 := n1_; have GW215 := n2_; have GE215 := n3_; clear n0_ n1_ n2_ n3_; clear hb hbox hg; have hcz23_0 : w22.cell? ⟨gb215, 0, none⟩ = some (.int .i64 a0_0) := (blk_cell BK215.out 0).trans rfl; have hcz23_1 : w22.cell? ⟨gb215, 1, none⟩ = some (.int .i64 a0_1) := (blk_cell BK215.out 1).trans rfl; have hcz23_2 : w22.cell? ⟨gb215, 2, none⟩ = some (.string a0_2) := (blk_cell BK215.out 2).trans rfl; have hfz23_0 := blk_frozen BK215.out 0; have hfz23_1 := blk_frozen BK215.out 1; have hfz23_2 := blk_frozen BK215.out 2))
        go_ret
        exact ⟨by first | rfl | (simp [errW_none, errW_some] <;> rfl) | (simp [*, errW_none, errW_some] <;> rfl), by repeat (first | (with_reducible first | exact HB.out | apply below_alloc | apply pw_below_drewN | apply below_drew1 | refine below_set ?_ GE215.out) | exact HB.out)⟩
    · rw [if_neg c14] at H
      obtain ⟨c14b0, c14b1⟩ := neB_ c14
      by_cases c24 : a0_0 = 3
      · rw [if_pos c24] at H
        obtain ⟨c24b0, c24b1⟩ := eqB_ c24
        clear c24
        by_cases c25 : a0_1 = 0
        · rw [if_pos c25] at H
          obtain ⟨c25b0, c25b1⟩ := eqB_ c25
          clear c25
          replace H := Option.bind_eq_some_iff.mp H
          obtain ⟨t217, A260, H⟩ := H
          replace H : (if t217 = true then (some 0) else (some 1)) = some r := H
          have A26 := Aside0.mk A260
          clear A260
          by_cases c27 : t217 = true
          · subst c27
            have H1 : (some 0) = some r := by rw [if_pos rfl] at H; exact H
            clear H
            have H := H1
            clear H1
            obtain rfl := Option.some.inj H
            go_enter Try.func58, Try.ntmps58
            go_wp2_with (first | ((with_reducible refine gate_dst (N := 1) rfl ?_); refine box_event ?hg (N := 1) ?hd (cs := #[.int .i64 a0_0, .int .i64 a0_1, .string a0_2]) (t := 40) ?hr ?_; (case hd => rfl); (case hg => rfl); (case hr => first | (go_simp; done) | (go_simp; rfl)); intro gb215 hg w28 hbox hb; have n0_ := bs_ (be_ HB) hb; have n1_ := Aside0.mk (hbox); have n2_ := gs_ hg (be_ HB); have n3_ := gs_ hg (be_ HB); clear HB; have HB := n0_; have BK215 := n1_; have GW215 := n2_; have GE215 := n3_; clear n0_ n1_ n2_ n3_; clear hb hbox hg; have hcz29_0 : w28.cell? ⟨gb215, 0, none⟩ = some (.int .i64 a0_0) := (blk_cell BK215.out 0).trans rfl; have hcz29_1 : w28.cell? ⟨gb215, 1, none⟩ = some (.int .i64 a0_1) := (blk_cell BK215.out 1).trans rfl; have hcz29_2 : w28.cell? ⟨gb215, 2, none⟩ = some (.string a0_2) := (blk_cell BK215.out 2).trans rfl; have hfz29_0 := blk_frozen BK215.out 0; have hfz29_1 := blk_frozen BK215.out 1; have hfz29_2 := blk_frozen BK215.out 2) | (go_at_call 63; (with_reducible refine (val_plain.calls k a0_2 true _ A26.out).mono ?_); rintro e w' ⟨rfl, ⟨nd, rfl⟩⟩))
            go_ret
            exact ⟨by first | rfl | (simp [errW_none, errW_some] <;> rfl) | (simp [*, errW_none, errW_some] <;> rfl), by repeat (first | (with_reducible first | exact HB.out | apply below_alloc | apply pw_below_drewN | apply below_drew1 | refine below_set ?_ GE215.out) | exact HB.out)⟩
          · replace c27 := Bool.eq_false_iff.mpr c27
            subst c27
            have H1 : (some 1) = some r := by rw [if_neg (show ¬ (false = true) by decide)] at H; exact H
            clear H
            have H := H1
            clear H1
            obtain rfl := Option.some.inj H
            go_enter Try.func58, Try.ntmps58
            go_wp2_with (first | ((with_reducible refine gate_dst (N := 1) rfl ?_); refine box_event ?hg (N := 1) ?hd (cs := #[.int .i64 a0_0, .int .i64 a0_1, .string a0_2]) (t := 40) ?hr ?_; (case hd => rfl); (case hg => rfl); (case hr => first | (go_simp; done) | (go_simp; rfl)); intro gb215 hg w30 hbox hb; have n0_ := bs_ (be_ HB) hb; have n1_ := Aside0.mk (hbox); have n2_ := gs_ hg (be_ HB); have n3_ := gs_ hg (be_ HB); clear HB; have HB := n0_; have BK215 := n1_; have GW215 := n2_; have GE215 := n3_; clear n0_ n1_ n2_ n3_; clear hb hbox hg; have hcz31_0 : w30.cell? ⟨gb215, 0, none⟩ = some (.int .i64 a0_0) := (blk_cell BK215.out 0).trans rfl; have hcz31_1 : w30.cell? ⟨gb215, 1, none⟩ = some (.int .i64 a0_1) := (blk_cell BK215.out 1).trans rfl; have hcz31_2 : w30.cell? ⟨gb215, 2, none⟩ = some (.string a0_2) := (blk_cell BK215.out 2).trans rfl; have hfz31_0 := blk_frozen BK215.out 0; have hfz31_1 := blk_frozen BK215.out 1; have hfz31_2 := blk_frozen BK215.out 2) | (go_at_call 63; (with_reducible refine (val_plain.calls k a0_2 false _ A26.out).mono ?_); rintro e w' ⟨rfl, ⟨nd, rfl⟩⟩))
            go_ret
            exact ⟨by first | rfl | (simp [errW_none, errW_some] <;> rfl) | (simp [*, errW_none, errW_some] <;> rfl), by repeat (first | (with_reducible first | exact HB.out | apply below_alloc | apply pw_below_drewN | apply below_drew1 | refine below_set ?_ GE215.out) | exact HB.out)⟩
        · rw [if_neg c25] at H
          obtain ⟨c25b0, c25b1⟩ := neB_ c25
          obtain rfl := Option.some.inj H
          go_enter Try.func58, Try.ntmps58
          go_wp2_with (first | ((with_reducible refine gate_dst (N := 1) rfl ?_); refine box_event ?hg (N := 1) ?hd (cs := #[.int .i64 a0_0, .int .i64 a0_1, .string a0_2]) (t := 40) ?hr ?_; (case hd => rfl); (case hg => rfl); (case hr => first | (go_simp; done) | (go_simp; rfl)); intro gb215 hg w32 hbox hb; have n0_ := bs_ (be_ HB) hb; have n1_ := Aside0.mk (hbox); have n2_ := gs_ hg (be_ HB); have n3_ := gs_ hg (be_ HB); clear HB; have HB := n0_; have BK215 := n1_; have GW215 := n2_; have GE215 := n3_; clear n0_ n1_ n2_ n3_; clear hb hbox hg; have hcz33_0 : w32.cell? ⟨gb215, 0, none⟩ = some (.int .i64 a0_0) := (blk_cell BK215.out 0).trans rfl; have hcz33_1 : w32.cell? ⟨gb215, 1, none⟩ = some (.int .i64 a0_1) := (blk_cell BK215.out 1).trans rfl; have hcz33_2 : w32.cell? ⟨gb215, 2, none⟩ = some (.string a0_2) := (blk_cell BK215.out 2).trans rfl; have hfz33_0 := blk_frozen BK215.out 0; have hfz33_1 := blk_frozen BK215.out 1; have hfz33_2 := blk_frozen BK215.out 2))
          go_ret
          exact ⟨by first | rfl | (simp [errW_none, errW_some] <;> rfl) | (simp [*, errW_none, errW_some] <;> rfl), by repeat (first | (with_reducible first | exact HB.out | apply below_alloc | apply pw_below_drewN | apply below_drew1 | refine below_set ?_ GE215.out) | exact HB.out)⟩
      · rw [if_neg c24] at H
        obtain ⟨c24b0, c24b1⟩ := neB_ c24
        obtain rfl := Option.some.inj H
        go_enter Try.func58, Try.ntmps58
        go_wp2_with (first | ((with_reducible refine gate_dst (N := 1) rfl ?_); refine box_event ?hg (N := 1) ?hd (cs := #[.int .i64 a0_0, .int .i64 a0_1, .string a0_2]) (t := 40) ?hr ?_; (case hd => rfl); (case hg => rfl); (case hr => first | (go_simp; done) | (go_simp; rfl)); intro gb215 hg w34 hbox hb; have n0_ := bs_ (be_ HB) hb; have n1_ := Aside0.mk (hbox); have n2_ := gs_ hg (be_ HB); have n3_ := gs_ hg (be_ HB); clear HB; have HB := n0_; have BK215 := n1_; have GW215 := n2_; have GE215 := n3_; clear n0_ n1_ n2_ n3_; clear hb hbox hg; have hcz35_0 : w34.cell? ⟨gb215, 0, none⟩ = some (.int .i64 a0_0) := (blk_cell BK215.out 0).trans rfl; have hcz35_1 : w34.cell? ⟨gb215, 1, none⟩ = some (.int .i64 a0_1) := (blk_cell BK215.out 1).trans rfl; have hcz35_2 : w34.cell? ⟨gb215, 2, none⟩ = some (.string a0_2) := (blk_cell BK215.out 2).trans rfl; have hfz35_0 := blk_frozen BK215.out 0; have hfz35_1 := blk_frozen BK215.out 1; have hfz35_2 := blk_frozen BK215.out 2))
        go_ret
        exact ⟨by first | rfl | (simp [errW_none, errW_some] <;> rfl) | (simp [*, errW_none, errW_some] <;> rfl), by repeat (first | (with_reducible first | exact HB.out | apply below_alloc | apply pw_below_drewN | apply below_drew1 | refine below_set ?_ GE215.out) | exact HB.out)⟩
end Go.Proofs.Ytconpnagoijacaa.P
end
section
namespace Go.Proofs.Ytconpnagoijacaa.P
open Go.RowKit Go.Proofs.YtconpnagoijacaaW.PrintWords Go.Proofs.YtconpnagoijacaaW.PrintLast Go.Proofs.YtconpnagoijacaaW.PrintMore
attribute [local go_sem] max2_int min2_int max_two min_two max_three min_three max_four min_four
set_option linter.unusedVariables false
set_option linter.unusedSimpArgs false
attribute [local go_sem high] eqA40
def expr_right.f (k : Nat) (a0_0 : Int) (a0_1 : ByteArray) (a0_2 : Int) (a0_3 : Int) (a0_4 : ByteArray) : Option (Bool) := if a0_0 = 1 then ((subst_Var.f k a0_1).bind fun t219 => (if t219 = true then (some (a0_2 == 0 && (a0_3 == 0 && (a0_4.toList == ([] : List UInt8))))) else (some false))) else (if a0_0 = 2 then (if a0_1.toList = ([] : List UInt8) then ((val_Check.f k a0_2 a0_3 a0_4).bind fun t220 => (some (t220 == 0))) else (some false)) else (if a0_0 = 3 then (if a0_1.toList = ([] : List UInt8) then (some (a0_2 == 0 && (a0_3 == 0 && (a0_4.toList == ([] : List UInt8))))) else (some false)) else (if a0_0 = 4 then (if a0_1.toList = ([] : List UInt8) then (some (a0_2 == 0 && (a0_3 == 0 && (a0_4.toList == ([] : List UInt8))))) else (some false)) else (if a0_0 = 5 then (if a0_1.toList = ([] : List UInt8) then (some (a0_2 == 0 && (a0_3 == 0 && (a0_4.toList == ([] : List UInt8))))) else (some false)) else (some false)))))
theorem expr_right.mono : ∀ a0 a1 a2 a3 a4 k, LeO (expr_right.f k a0 a1 a2 a3 a4) (expr_right.f (k + 1) a0 a1 a2 a3 a4) := by
  intro a0 a1 a2 a3 a4 k
  unfold expr_right.f
  repeat' first
      | (with_reducible exact subst_Var.mono _ _)
      | (with_reducible exact val_Check.mono _ _ _ _)
      | (with_reducible exact LeO.refl _)
      | (with_reducible exact LeO.none _)
      | (with_reducible refine LeO.ite ?_ ?_)
      | (with_reducible refine LeO.bind ?_ (fun _ => ?_))
      | exact subst_Var.mono _ _
      | exact val_Check.mono _ _ _ _
      | exact LeO.none _
      | refine LeO.ite ?_ ?_
      | refine LeO.bind ?_ (fun _ => ?_)
set_option maxHeartbeats 8000000 in
set_option maxRecDepth 100000 in
theorem expr_right.calls (k : Nat) (a0_0 : Int) (a0_1 : ByteArray) (a0_2 : Int) (a0_3 : Int) (a0_4 : ByteArray) (r : Bool) (w : World) (h : expr_right.f k a0_0 a0_1 a0_2 a0_3 a0_4 = some r) :
    Calls Try.prog 47 #[.agg #[.int .i64 a0_0, .string a0_1, .int .i64 a0_2, .int .i64 a0_3, .string a0_4]] w fun e w' => e = .returned (.bool r) ∧ Below w.heap.size w w' := by
  have hu52 := Try.underlying52
  have hu40 := Try.underlying40
  have HB := Aside0.mk (Below.refl w.heap.size w)
  have H : (if a0_0 = 1 then ((subst_Var.f k a0_1).bind fun t219 => (if t219 = true then (some (a0_2 == 0 && (a0_3 == 0 && (a0_4.toList == ([] : List UInt8))))) else (some false))) else (if a0_0 = 2 then (if a0_1.toList = ([] : List UInt8) then ((val_Check.f k a0_2 a0_3 a0_4).bind fun t220 => (some (t220 == 0))) else (some false)) else (if a0_0 = 3 then (if a0_1.toList = ([] : List UInt8) then (some (a0_2 == 0 && (a0_3 == 0 && (a0_4.toList == ([] : List UInt8))))) else (some false)) else (if a0_0 = 4 then (if a0_1.toList = ([] : List UInt8) then (some (a0_2 == 0 && (a0_3 == 0 && (a0_4.toList == ([] : List UInt8))))) else (some false)) else (if a0_0 = 5 then (if a0_1.toList = ([] : List UInt8) then (some (a0_2 == 0 && (a0_3 == 0 && (a0_4.toList == ([] : List UInt8))))) else (some false)) else (some false)))))) = some r := h
  clear h
  by_cases c2 : a0_0 = 1
  · rw [if_pos c2] at H
    obtain ⟨c2b0, c2b1⟩ := eqB_ c2
    clear c2
    replace H := Option.bind_eq_some_iff.mp H
    obtain ⟨t219, A30, H⟩ := H
    replace H : (if t219 = true then (some (a0_2 == 0 && (a0_3 == 0 && (a0_4.toList == ([] : List UInt8))))) else (some false)) = some r := H
    have A3 := Aside0.mk A30
    clear A30
    by_cases c4 : t219 = true
    · subst c4
      have H1 : (some (a0_2 == 0 && (a0_3 == 0 && (a0_4.toList == ([] : List UInt8))))) = some r := by rw [if_pos rfl] at H; exact H
      clear H
      have H := H1
      clear H1
      obtain rfl := Option.some.inj H
      go_enter Try.func47, Try.ntmps47
      go_wp2_with (first | ((with_reducible refine gate_dst (N := 1) rfl ?_); refine box_event ?hg (N := 1) ?hd (cs := #[.int .i64 a0_0, .string a0_1, .int .i64 a0_2, .int .i64 a0_3, .string a0_4]) (t := 52) ?hr ?_; (case hd => rfl); (case hg => rfl); (case hr => first | (go_simp; done) | (go_simp; rfl)); intro gb218 hg w5 hbox hb; have n0_ := bs_ (be_ HB) hb; have n1_ := Aside0.mk (hbox); have n2_ := gs_ hg (be_ HB); have n3_ := gs_ hg (be_ HB); clear HB; have HB := n0_; have BK218 := n1_; have GW218 := n2_; have GE218 := n3_; clear n0_ n1_ n2_ n3_; clear hb hbox hg; have hcz6_0 : w5.cell? ⟨gb218, 0, none⟩ = some (.int .i64 a0_0) := (blk_cell BK218.out 0).trans rfl; have hcz6_1 : w5.cell? ⟨gb218, 1, none⟩ = some (.string a0_1) := (blk_cell BK218.out 1).trans rfl; have hcz6_2 : w5.cell? ⟨gb218, 2, none⟩ = some (.int .i64 a0_2) := (blk_cell BK218.out 2).trans rfl; have hcz6_3 : w5.cell? ⟨gb218, 3, none⟩ = some (.int .i64 a0_3) := (blk_cell BK218.out 3).trans rfl; have hcz6_4 : w5.cell? ⟨gb218, 4, none⟩ = some (.string a0_4) := (blk_cell BK218.out 4).trans rfl; have hfz6_0 := blk_frozen BK218.out 0; have hfz6_1 := blk_frozen BK218.out 1; have hfz6_2 := blk_frozen BK218.out 2; have hfz6_3 := blk_frozen BK218.out 3; have hfz6_4 := blk_frozen BK218.out 4) | ((with_reducible refine gate_callee (f := 57) rfl ?_); refine goesL_ (some 9) rfl rfl Try.func57 (by kernel_rfl) rfl #[.string a0_1] rfl ga_ ?_; (with_reducible refine (subst_Var.calls k a0_1 true _ A3.out).mono ?_); rintro e w' ⟨rfl, ⟨nd, rfl⟩⟩; refine ⟨_, rfl, ?_⟩))
      go_ret
      exact ⟨by first | rfl | (simp [errW_none, errW_some] <;> rfl) | (simp [*, errW_none, errW_some] <;> rfl), by repeat (first | (with_reducible first | exact HB.out | apply below_alloc | apply pw_below_drewN | apply below_drew1 | refine below_set ?_ GE218.out) | exact HB.out)⟩
    · replace c4 := Bool.eq_false_iff.mpr c4
      subst c4
      have H1 : (some false) = some r := by rw [if_neg (show ¬ (false = true) by decide)] at H; exact H
      clear H
      have H := H1
      clear H1
      obtain rfl := Option.some.inj H
      go_enter Try.func47, Try.ntmps47
      go_wp2_with (first | ((with_reducible refine gate_dst (N := 1) rfl ?_); refine box_event ?hg (N := 1) ?hd (cs := #[.int .i64 a0_0, .string a0_1, .int .i64 a0_2, .int .i64 a0_3, .string a0_4]) (t := 52) ?hr ?_; (case hd => rfl); (case hg => rfl); (case hr => first | (go_simp; done) | (go_simp; rfl)); intro gb218 hg w7 hbox hb; have n0_ := bs_ (be_ HB) hb; have n1_ := Aside0.mk (hbox); have n2_ := gs_ hg (be_ HB); have n3_ := gs_ hg (be_ HB); clear HB; have HB := n0_; have BK218 := n1_; have GW218 := n2_; have GE218 := n3_; clear n0_ n1_ n2_ n3_; clear hb hbox hg; have hcz8_0 : w7.cell? ⟨gb218, 0, none⟩ = some (.int .i64 a0_0) := (blk_cell BK218.out 0).trans rfl; have hcz8_1 : w7.cell? ⟨gb218, 1, none⟩ = some (.string a0_1) := (blk_cell BK218.out 1).trans rfl; have hcz8_2 : w7.cell? ⟨gb218, 2, none⟩ = some (.int .i64 a0_2) := (blk_cell BK218.out 2).trans rfl; have hcz8_3 : w7.cell? ⟨gb218, 3, none⟩ = some (.int .i64 a0_3) := (blk_cell BK218.out 3).trans rfl; have hcz8_4 : w7.cell? ⟨gb218, 4, none⟩ = some (.string a0_4) := (blk_cell BK218.out 4).trans rfl; have hfz8_0 := blk_frozen BK218.out 0; have hfz8_1 := blk_frozen BK218.out 1; have hfz8_2 := blk_frozen BK218.out 2; have hfz8_3 := blk_frozen BK218.out 3; have hfz8_4 := blk_frozen BK218.out 4) | ((with_reducible refine gate_callee (f := 57) rfl ?_); refine goesL_ (some 9) rfl rfl Try.func57 (by kernel_rfl) rfl #[.string a0_1] rfl ga_ ?_; (with_reducible refine (subst_Var.calls k a0_1 false _ A3.out).mono ?_); rintro e w' ⟨rfl, ⟨nd, rfl⟩⟩; refine ⟨_, rfl, ?_⟩))
      go_ret
      exact ⟨by first | rfl | (simp [errW_none, errW_some] <;> rfl) | (simp [*, errW_none, errW_some] <;> rfl), by repeat (first | (with_reducible first | exact HB.out | apply below_alloc | apply pw_below_drewN | apply below_drew1 | refine below_set ?_ GE218.out) | exact HB.out)⟩
  · rw [if_neg c2] at H
    obtain ⟨c2b0, c2b1⟩ := neB_ c2
    by_cases c9 : a0_0 = 2
    · rw [if_pos c9] at H
      obtain ⟨c9b0, c9b1⟩ := eqB_ c9
      clear c9
      by_cases c10 : a0_1.toList = ([] : List UInt8)
      · rw [if_pos c10] at H
        obtain ⟨c10b0, c10b1⟩ := eqB_ c10
        clear c10
        replace H := Option.bind_eq_some_iff.mp H
        obtain ⟨t220, A110, H⟩ := H
        replace H : (some (t220 == 0)) = some r := H
        have A11 := Aside0.mk A110
        clear A110
        obtain rfl := Option.some.inj H
        go_enter Try.func47, Try.ntmps47
        go_wp2_with (first | ((with_reducible refine gate_dst (N := 1) rfl ?_); refine box_event ?hg (N := 1) ?hd (cs := #[.int .i64 a0_0, .string a0_1, .int .i64 a0_2, .int .i64 a0_3, .string a0_4]) (t := 52) ?hr ?_; (case hd => rfl); (case hg => rfl); (case hr => first | (go_simp; done) | (go_simp; rfl)); intro gb218 hg w12 hbox hb; have n0_ := bs_ (be_ HB) hb; have n1_ := Aside0.mk (hbox); have n2_ := gs_ hg (be_ HB); have n3_ := gs_ hg (be_ HB); clear HB; have HB := n0_; have BK218 := n1_; have GW218 := n2_; have GE218 := n3_; clear n0_ n1_ n2_ n3_; clear hb hbox hg; have hcz13_0 : w12.cell? ⟨gb218, 0, none⟩ = some (.int .i64 a0_0) := (blk_cell BK218.out 0).trans rfl; have hcz13_1 : w12.cell? ⟨gb218, 1, none⟩ = some (.string a0_1) := (blk_cell BK218.out 1).trans rfl; have hcz13_2 : w12.cell? ⟨gb218, 2, none⟩ = some (.int .i64 a0_2) := (blk_cell BK218.out 2).trans rfl; have hcz13_3 : w12.cell? ⟨gb218, 3, none⟩ = some (.int .i64 a0_3) := (blk_cell BK218.out 3).trans rfl; have hcz13_4 : w12.cell? ⟨gb218, 4, none⟩ = some (.string a0_4) := (blk_cell BK218.out 4).trans rfl; have hfz13_0 := blk_frozen BK218.out 0; have hfz13_1 := blk_frozen BK218.out 1; have hfz13_2 := blk_frozen BK218.out 2; have hfz13_3 := blk_frozen BK218.out 3; have hfz13_4 := blk_frozen BK218.out 4) | (go_at_call 58; (with_reducible refine (val_Check.calls k a0_2 a0_3 a0_4 t220 _ A11.out).mono ?_); rintro e w14 ⟨rfl, hb⟩; have n0_ := bb_ (bu_ BK218) hb; have n1_ := bs_ (be_ HB) hb; clear BK218; clear HB; have BK218 := n0_; have HB := n1_; clear n0_ n1_; (try clear hb); (try clear hb2); (try clear hk); (try clear hi)))
        go_ret
        exact ⟨by first | rfl | (simp [errW_none, errW_some] <;> rfl) | (simp [*, errW_none, errW_some] <;> rfl), by repeat (first | (with_reducible first | exact HB.out | apply below_alloc | apply pw_below_drewN | apply below_drew1 | refine below_set ?_ GE218.out) | exact HB.out)⟩
      · rw [if_neg c10] at H
        obtain ⟨c10b0, c10b1⟩ := neB_ c10
        obtain rfl := Option.some.inj H
        go_enter Try.func47, Try.ntmps47
        go_wp2_with (first | ((with_reducible refine gate_dst (N := 1) rfl ?_); refine box_event ?hg (N := 1) ?hd (cs := #[.int .i64 a0_0, .string a0_1, .int .i64 a0_2, .int .i64 a0_3, .string a0_4]) (t := 52) ?hr ?_; (case hd => rfl); (case hg => rfl); (case hr => first | (go_simp; done) | (go_simp; rfl)); intro gb218 hg w15 hbox hb; have n0_ := bs_ (be_ HB) hb; have n1_ := Aside0.mk (hbox); have n2_ := gs_ hg (be_ HB); have n3_ := gs_ hg (be_ HB); clear HB; have HB := n0_; have BK218 := n1_; have GW218 := n2_; have GE218 := n3_; clear n0_ n1_ n2_ n3_; clear hb hbox hg; have hcz16_0 : w15.cell? ⟨gb218, 0, none⟩ = some (.int .i64 a0_0) := (blk_cell BK218.out 0).trans rfl; have hcz16_1 : w15.cell? ⟨gb218, 1, none⟩ = some (.string a0_1) := (blk_cell BK218.out 1).trans rfl; have hcz16_2 : w15.cell? ⟨gb218, 2, none⟩ = some (.int .i64 a0_2) := (blk_cell BK218.out 2).trans rfl; have hcz16_3 : w15.cell? ⟨gb218, 3, none⟩ = some (.int .i64 a0_3) := (blk_cell BK218.out 3).trans rfl; have hcz16_4 : w15.cell? ⟨gb218, 4, none⟩ = some (.string a0_4) := (blk_cell BK218.out 4).trans rfl; have hfz16_0 := blk_frozen BK218.out 0; have hfz16_1 := blk_frozen BK218.out 1; have hfz16_2 := blk_frozen BK218.out 2; have hfz16_3 := blk_frozen BK218.out 3; have hfz16_4 := blk_frozen BK218.out 4))
        go_ret
        exact ⟨by first | rfl | (simp [errW_none, errW_some] <;> rfl) | (simp [*, errW_none, errW_some] <;> rfl), by repeat (first | (with_reducible first | exact HB.out | apply below_alloc | apply pw_below_drewN | apply below_drew1 | refine below_set ?_ GE218.out) | exact HB.out)⟩
    · rw [if_neg c9] at H
      obtain ⟨c9b0, c9b1⟩ := neB_ c9
      by_cases c17 : a0_0 = 3
      · rw [if_pos c17] at H
        obtain ⟨c17b0, c17b1⟩ := eqB_ c17
        clear c17
        by_cases c18 : a0_1.toList = ([] : List UInt8)
        · rw [if_pos c18] at H
          obtain ⟨c18b0, c18b1⟩ := eqB_ c18
          clear c18
          obtain rfl := Option.some.inj H
          go_enter Try.func47, Try.ntmps47
          go_wp2_with (first | ((with_reducible refine gate_dst (N := 1) rfl ?_); refine box_event ?hg (N := 1) ?hd (cs := #[.int .i64 a0_0, .string a0_1, .int .i64 a0_2, .int .i64 a0_3, .string a0_4]) (t := 52) ?hr ?_; (case hd => rfl); (case hg => rfl); (case hr => first | (go_simp; done) | (go_simp; rfl)); intro gb218 hg w19 hbox hb; have n0_ := bs_ (be_ HB) hb; have n1_ := Aside0.mk (hbox); have n2_ := gs_ hg (be_ HB); have n3_ := gs_ hg (be_ HB); clear HB; have HB := n0_; have BK218 := n1_; have GW218 := n2_; have GE218 := n3_; clear n0_ n1_ n2_ n3_; clear hb hbox hg; have hcz20_0 : w19.cell? ⟨gb218, 0, none⟩ = some (.int .i64 a0_0) := (blk_cell BK218.out 0).trans rfl; have hcz20_1 : w19.cell? ⟨gb218, 1, none⟩ = some (.string a0_1) := (blk_cell BK218.out 1).trans rfl; have hcz20_2 : w19.cell? ⟨gb218, 2, none⟩ = some (.int .i64 a0_2) := (blk_cell BK218.out 2).trans rfl; have hcz20_3 : w19.cell? ⟨gb218, 3, none⟩ = some (.int .i64 a0_3) := (blk_cell BK218.out 3).trans rfl; have hcz20_4 : w19.cell? ⟨gb218, 4, none⟩ = some (.string a0_4) := (blk_cell BK218.out 4).trans rfl; have hfz20_0 := blk_frozen BK218.out 0; have hfz20_1 := blk_frozen BK218.out 1; have hfz20_2 := blk_frozen BK218.out 2; have hfz20_3 := blk_frozen BK218.out 3; have hfz20_4 := blk_frozen BK218.out 4))
          go_ret
          exact ⟨by first | rfl | (simp [errW_none, errW_some] <;> rfl) | (simp [*, errW_none, errW_some] <;> rfl), by repeat (first | (with_reducible first | exact HB.out | apply below_alloc | apply pw_below_drewN | apply below_drew1 | refine below_set ?_ GE218.out) | exact HB.out)⟩
        · rw [if_neg c18] at H
          obtain ⟨c18b0, c18b1⟩ := neB_ c18
          obtain rfl := Option.some.inj H
          go_enter Try.func47, Try.ntmps47
          go_wp2_with (first | ((with_reducible refine gate_dst (N := 1) rfl ?_); refine box_event ?hg (N := 1) ?hd (cs := #[.int .i64 a0_0, .string a0_1, .int .i64 a0_2, .int .i64 a0_3, .string a0_4]) (t := 52) ?hr ?_; (case hd => rfl); (case hg => rfl); (case hr => first | (go_simp; done) | (go_simp; rfl)); intro gb218 hg w21 hbox hb; have n0_ := bs_ (be_ HB) hb; have n1_ := Aside0.mk (hbox); have n2_ := gs_ hg (be_ HB); have n3_ := gs_ hg (be_ HB); clear HB; have HB := n0_; have BK218 := n1_; have GW218 := n2_; have GE218 := n3_; clear n0_ n1_ n2_ n3_; clear hb hbox hg; have hcz22_0 : w21.cell? ⟨gb218, 0, none⟩ = some (.int .i64 a0_0) := (blk_cell BK218.out 0).trans rfl; have hcz22_1 : w21.cell? ⟨gb218, 1, none⟩ = some (.string a0_1) := (blk_cell BK218.out 1).trans rfl; have hcz22_2 : w21.cell? ⟨gb218, 2, none⟩ = some (.int .i64 a0_2) := (blk_cell BK218.out 2).trans rfl; have hcz22_3 : w21.cell? ⟨gb218, 3, none⟩ = some (.int .i64 a0_3) := (blk_cell BK218.out 3).trans rfl; have hcz22_4 : w21.cell? ⟨gb218, 4, none⟩ = some (.string a0_4) := (blk_cell BK218.out 4).trans rfl; have hfz22_0 := blk_frozen BK218.out 0; have hfz22_1 := blk_frozen BK218.out 1; have hfz22_2 := blk_frozen BK218.out 2; have hfz22_3 := blk_frozen BK218.out 3; have hfz22_4 := blk_frozen BK218.out 4))
          go_ret
          exact ⟨by first | rfl | (simp [errW_none, errW_some] <;> rfl) | (simp [*, errW_none, errW_some] <;> rfl), by repeat (first | (with_reducible first | exact HB.out | apply below_alloc | apply pw_below_drewN | apply below_drew1 | refine below_set ?_ GE218.out) | exact HB.out)⟩
      · rw [if_neg c17] at H
        obtain ⟨c17b0, c17b1⟩ := neB_ c17
        by_cases c23 : a0_0 = 4
        · rw [if_pos c23] at H
          obtain ⟨c23b0, c23b1⟩ := eqB_ c23
          clear c23
          by_cases c24 : a0_1.toList = ([] : List UInt8)
          · rw [if_pos c24] at H
            obtain ⟨c24b0, c24b1⟩ := eqB_ c24
            clear c24
            obtain rfl := Option.some.inj H
            go_enter Try.func47, Try.ntmps47
            go_wp2_with (first | ((with_reducible refine gate_dst (N := 1) rfl ?_); refine box_event ?hg (N := 1) ?hd (cs := #[.int .i64 a0_0, .string a0_1, .int .i64 a0_2, .int .i64 a0_3, .string a0_4]) (t := 52) ?hr ?_; (case hd => rfl); (case hg => rfl); (case hr => first | (go_simp; done) | (go_simp; rfl)); intro gb218 hg w25 hbox hb; have n0_ := bs_ (be_ HB) hb; have n1_ := Aside0.mk (hbox); have n2_ := gs_ hg (be_ HB); have n3_ := gs_ hg (be_ HB); clear HB; have HB := n0_; have BK218 := n1_; have GW218 := n2_; have GE218 := n3_; clear n0_ n1_ n2_ n3_; clear hb hbox hg; have hcz26_0 : w25.cell? ⟨gb218, 0, none⟩ = some (.int .i64 a0_0) := (blk_cell BK218.out 0).trans rfl; have hcz26_1 : w25.cell? ⟨gb218, 1, none⟩ = some (.string a0_1) := (blk_cell BK218.out 1).trans rfl; have hcz26_2 : w25.cell? ⟨gb218, 2, none⟩ = some (.int .i64 a0_2) := (blk_cell BK218.out 2).trans rfl; have hcz26_3 : w25.cell? ⟨gb218, 3, none⟩ = some (.int .i64 a0_3) := (blk_cell BK218.out 3).trans rfl; have hcz26_4 : w25.cell? ⟨gb218, 4, none⟩ = some (.string a0_4) := (blk_cell BK218.out 4).trans rfl; have hfz26_0 := blk_frozen BK218.out 0; have hfz26_1 := blk_frozen BK218.out 1; have hfz26_2 := blk_frozen BK218.out 2; have hfz26_3 := blk_frozen BK218.out 3; have hfz26_4 := blk_frozen BK218.out 4))
            go_ret
            exact ⟨by first | rfl | (simp [errW_none, errW_some] <;> rfl) | (simp [*, errW_none, errW_some] <;> rfl), by repeat (first | (with_reducible first | exact HB.out | apply below_alloc | apply pw_below_drewN | apply below_drew1 | refine below_set ?_ GE218.out) | exact HB.out)⟩
          · rw [if_neg c24] at H
            obtain ⟨c24b0, c24b1⟩ := neB_ c24
            obtain rfl := Option.some.inj H
            go_enter Try.func47, Try.ntmps47
            go_wp2_with (first | ((with_reducible refine gate_dst (N := 1) rfl ?_); refine box_event ?hg (N := 1) ?hd (cs := #[.int .i64 a0_0, .string a0_1, .int .i64 a0_2, .int .i64 a0_3, .string a0_4]) (t := 52) ?hr ?_; (case hd => rfl); (case hg => rfl); (case hr => first | (go_simp; done) | (go_simp; rfl)); intro gb218 hg w27 hbox hb; have n0_ := bs_ (be_ HB) hb; have n1_ := Aside0.mk (hbox); have n2_ := gs_ hg (be_ HB); have n3_ := gs_ hg (be_ HB); clear HB; have HB := n0_; have BK218 := n1_; have GW218 := n2_; have GE218 := n3_; clear n0_ n1_ n2_ n3_; clear hb hbox hg; have hcz28_0 : w27.cell? ⟨gb218, 0, none⟩ = some (.int .i64 a0_0) := (blk_cell BK218.out 0).trans rfl; have hcz28_1 : w27.cell? ⟨gb218, 1, none⟩ = some (.string a0_1) := (blk_cell BK218.out 1).trans rfl; have hcz28_2 : w27.cell? ⟨gb218, 2, none⟩ = some (.int .i64 a0_2) := (blk_cell BK218.out 2).trans rfl; have hcz28_3 : w27.cell? ⟨gb218, 3, none⟩ = some (.int .i64 a0_3) := (blk_cell BK218.out 3).trans rfl; have hcz28_4 : w27.cell? ⟨gb218, 4, none⟩ = some (.string a0_4) := (blk_cell BK218.out 4).trans rfl; have hfz28_0 := blk_frozen BK218.out 0; have hfz28_1 := blk_frozen BK218.out 1; have hfz28_2 := blk_frozen BK218.out 2; have hfz28_3 := blk_frozen BK218.out 3; have hfz28_4 := blk_frozen BK218.out 4))
            go_ret
            exact ⟨by first | rfl | (simp [errW_none, errW_some] <;> rfl) | (simp [*, errW_none, errW_some] <;> rfl), by repeat (first | (with_reducible first | exact HB.out | apply below_alloc | apply pw_below_drewN | apply below_drew1 | refine below_set ?_ GE218.out) | exact HB.out)⟩
        · rw [if_neg c23] at H
          obtain ⟨c23b0, c23b1⟩ := neB_ c23
          by_cases c29 : a0_0 = 5
          · rw [if_pos c29] at H
            obtain ⟨c29b0, c29b1⟩ := eqB_ c29
            clear c29
            by_cases c30 : a0_1.toList = ([] : List UInt8)
            · rw [if_pos c30] at H
              obtain ⟨c30b0, c30b1⟩ := eqB_ c30
              clear c30
              obtain rfl := Option.some.inj H
              go_enter Try.func47, Try.ntmps47
              go_wp2_with (first | ((with_reducible refine gate_dst (N := 1) rfl ?_); refine box_event ?hg (N := 1) ?hd (cs := #[.int .i64 a0_0, .string a0_1, .int .i64 a0_2, .int .i64 a0_3, .string a0_4]) (t := 52) ?hr ?_; (case hd => rfl); (case hg => rfl); (case hr => first | (go_simp; done) | (go_simp; rfl)); intro gb218 hg w31 hbox hb; have n0_ := bs_ (be_ HB) hb; have n1_ := Aside0.mk (hbox); have n2_ := gs_ hg (be_ HB); have n3_ := gs_ hg (be_ HB); clear HB; have HB := n0_; have BK218 := n1_; have GW218 := n2_; have GE218 := n3_; clear n0_ n1_ n2_ n3_; clear hb hbox hg; have hcz32_0 : w31.cell? ⟨gb218, 0, none⟩ = some (.int .i64 a0_0) := (blk_cell BK218.out 0).trans rfl; have hcz32_1 : w31.cell? ⟨gb218, 1, none⟩ = some (.string a0_1) := (blk_cell BK218.out 1).trans rfl; have hcz32_2 : w31.cell? ⟨gb218, 2, none⟩ = some (.int .i64 a0_2) := (blk_cell BK218.out 2).trans rfl; have hcz32_3 : w31.cell? ⟨gb218, 3, none⟩ = some (.int .i64 a0_3) := (blk_cell BK218.out 3).trans rfl; have hcz32_4 : w31.cell? ⟨gb218, 4, none⟩ = some (.string a0_4) := (blk_cell BK218.out 4).trans rfl; have hfz32_0 := blk_frozen BK218.out 0; have hfz32_1 := blk_frozen BK218.out 1; have hfz32_2 := blk_frozen BK218.out 2; have hfz32_3 := blk_frozen BK218.out 3; have hfz32_4 := blk_frozen BK218.out 4))
              go_ret
              exact ⟨by first | rfl | (simp [errW_none, errW_some] <;> rfl) | (simp [*, errW_none, errW_some] <;> rfl), by repeat (first | (with_reducible first | exact HB.out | apply below_alloc | apply pw_below_drewN | apply below_drew1 | refine below_set ?_ GE218.out) | exact HB.out)⟩
            · rw [if_neg c30] at H
              obtain ⟨c30b0, c30b1⟩ := neB_ c30
              obtain rfl := Option.some.inj H
              go_enter Try.func47, Try.ntmps47
              go_wp2_with (first | ((with_reducible refine gate_dst (N := 1) rfl ?_); refine box_event ?hg (N := 1) ?hd (cs := #[.int .i64 a0_0, .string a0_1, .int .i64 a0_2, .int .i64 a0_3, .string a0_4]) (t := 52) ?hr ?_; (case hd => rfl); (case hg => rfl); (case hr => first | (go_simp; done) | (go_simp; rfl)); intro gb218 hg w33 hbox hb; have n0_ := bs_ (be_ HB) hb; have n1_ := Aside0.mk (hbox); have n2_ := gs_ hg (be_ HB); have n3_ := gs_ hg (be_ HB); clear HB; have HB := n0_; have BK218 := n1_; have GW218 := n2_; have GE218 := n3_; clear n0_ n1_ n2_ n3_; clear hb hbox hg; have hcz34_0 : w33.cell? ⟨gb218, 0, none⟩ = some (.int .i64 a0_0) := (blk_cell BK218.out 0).trans rfl; have hcz34_1 : w33.cell? ⟨gb218, 1, none⟩ = some (.string a0_1) := (blk_cell BK218.out 1).trans rfl; have hcz34_2 : w33.cell? ⟨gb218, 2, none⟩ = some (.int .i64 a0_2) := (blk_cell BK218.out 2).trans rfl; have hcz34_3 : w33.cell? ⟨gb218, 3, none⟩ = some (.int .i64 a0_3) := (blk_cell BK218.out 3).trans rfl; have hcz34_4 : w33.cell? ⟨gb218, 4, none⟩ = some (.string a0_4) := (blk_cell BK218.out 4).trans rfl; have hfz34_0 := blk_frozen BK218.out 0; have hfz34_1 := blk_frozen BK218.out 1; have hfz34_2 := blk_frozen BK218.out 2; have hfz34_3 := blk_frozen BK218.out 3; have hfz34_4 := blk_frozen BK218.out 4))
              go_ret
              exact ⟨by first | rfl | (simp [errW_none, errW_some] <;> rfl) | (simp [*, errW_none, errW_some] <;> rfl), by repeat (first | (with_reducible first | exact HB.out | apply below_alloc | apply pw_below_drewN | apply below_drew1 | refine below_set ?_ GE218.out) | exact HB.out)⟩
          · rw [if_neg c29] at H
            obtain ⟨c29b0, c29b1⟩ := neB_ c29
            obtain rfl := Option.some.inj H
            go_enter Try.func47, Try.ntmps47
            go_wp2_with (first | ((with_reducible refine gate_dst (N := 1) rfl ?_); refine box_event ?hg (N := 1) ?hd (cs := #[.int .i64 a0_0, .string a0_1, .int .i64 a0_2, .int .i64 a0_3, .string a0_4]) (t := 52) ?hr ?_; (case hd => rfl); (case hg => rfl); (case hr => first | (go_simp; done) | (go_simp; rfl)); intro gb218 hg w35 hbox hb; have n0_ := bs_ (be_ HB) hb; have n1_ := Aside0.mk (hbox); have n2_ := gs_ hg (be_ HB); have n3_ := gs_ hg (be_ HB); clear HB; have HB := n0_; have BK218 := n1_; have GW218 := n2_; have GE218 := n3_; clear n0_ n1_ n2_ n3_; clear hb hbox hg; have hcz36_0 : w35.cell? ⟨gb218, 0, none⟩ = some (.int .i64 a0_0) := (blk_cell BK218.out 0).trans rfl; have hcz36_1 : w35.cell? ⟨gb218, 1, none⟩ = some (.string a0_1) := (blk_cell BK218.out 1).trans rfl; have hcz36_2 : w35.cell? ⟨gb218, 2, none⟩ = some (.int .i64 a0_2) := (blk_cell BK218.out 2).trans rfl; have hcz36_3 : w35.cell? ⟨gb218, 3, none⟩ = some (.int .i64 a0_3) := (blk_cell BK218.out 3).trans rfl; have hcz36_4 : w35.cell? ⟨gb218, 4, none⟩ = some (.string a0_4) := (blk_cell BK218.out 4).trans rfl; have hfz36_0 := blk_frozen BK218.out 0; have hfz36_1 := blk_frozen BK218.out 1; have hfz36_2 := blk_frozen BK218.out 2; have hfz36_3 := blk_frozen BK218.out 3; have hfz36_4 := blk_frozen BK218.out 4))
            go_ret
            exact ⟨by first | rfl | (simp [errW_none, errW_some] <;> rfl) | (simp [*, errW_none, errW_some] <;> rfl), by repeat (first | (with_reducible first | exact HB.out | apply below_alloc | apply pw_below_drewN | apply below_drew1 | refine below_set ?_ GE218.out) | exact HB.out)⟩
end Go.Proofs.Ytconpnagoijacaa.P
end
section
namespace Go.Proofs.Ytconpnagoijacaa.P
open Go.RowKit Go.Proofs.YtconpnagoijacaaW.PrintWords Go.Proofs.YtconpnagoijacaaW.PrintLast Go.Proofs.YtconpnagoijacaaW.PrintMore
attribute [local go_sem] max2_int min2_int max_two min_two max_three min_three max_four min_four
set_option linter.unusedVariables false
set_option linter.unusedSimpArgs false
mutual
def expr_Check.j0 : Nat → List (S52) → Bool → Option (Int)
  | 0, _, _ => none
  | k + 1, x0, x13 => if x13 = true then (some 1) else (expr_Check.l0 k 0 x0 (x0.length : Int) 0)
def expr_Check.l0 : Nat → Int → List (S52) → Int → Int → Option (Int)
  | 0, _, _, _, _ => none
  | k + 1, x3, x14, x15, x16 => if x16 < x15 then (if 0 ≤ x16 then (if x16 < (x14.length : Int) then ((expr_right.f k ((rd_T52 x14 x16).f0) ((rd_T52 x14 x16).f1) ((rd_T52 x14 x16).f2.f0) ((rd_T52 x14 x16).f2.f1) ((rd_T52 x14 x16).f2.f2)).bind fun t223 => (if t223 = true then ((expr_pushes.f ((rd_T52 x14 x16).f0)).bind fun t224 => (if t224 = true then (expr_Check.j2 k x3 x14 x15 x16 false ((rd_T52 x14 x16).f0) ((rd_T52 x14 x16).f1) ((rd_T52 x14 x16).f2.f0) ((rd_T52 x14 x16).f2.f1) ((rd_T52 x14 x16).f2.f2)) else (expr_Check.j2 k x3 x14 x15 x16 (decide (x3 < 2)) ((rd_T52 x14 x16).f0) ((rd_T52 x14 x16).f1) ((rd_T52 x14 x16).f2.f0) ((rd_T52 x14 x16).f2.f1) ((rd_T52 x14 x16).f2.f2)))) else (expr_Check.j2 k x3 x14 x15 x16 true ((rd_T52 x14 x16).f0) ((rd_T52 x14 x16).f1) ((rd_T52 x14 x16).f2.f0) ((rd_T52 x14 x16).f2.f1) ((rd_T52 x14 x16).f2.f2)))) else (none)) else (none)) else (if x3 = 1 then (some 0) else (some 1))
def expr_Check.j2 : Nat → Int → List (S52) → Int → Int → Bool → Int → ByteArray → Int → Int → ByteArray → Option (Int)
  | 0, _, _, _, _, _, _, _, _, _, _ => none
  | k + 1, x3, x14, x15, x16, x32, x223000, x223001, x223002, x223003, x223004 => if x32 = true then (some 1) else ((expr_pushes.f x223000).bind fun t225 => (if t225 = true then (expr_Check.l0 k (wrap64 (x3 + 1)) x14 x15 (wrap64 (x16 + 1))) else (expr_Check.l0 k (wrap64 (x3 - 1)) x14 x15 (wrap64 (x16 + 1)))))
end
def expr_Check.f (k : Nat) (l0 : List (S52)) : Option (Int) := if (l0.length : Int) < 1 then (expr_Check.j0 k l0 true) else (expr_Check.j0 k l0 (decide ((l0.length : Int) > 15)))
theorem expr_Check.mono_l : ∀ k, (∀ y0 y1, LeO (expr_Check.j0 k y0 y1) (expr_Check.j0 (k + 1) y0 y1)) ∧ (∀ y0 y1 y2 y3, LeO (expr_Check.l0 k y0 y1 y2 y3) (expr_Check.l0 (k + 1) y0 y1 y2 y3)) ∧ (∀ y0 y1 y2 y3 y4 y5 y6 y7 y8 y9, LeO (expr_Check.j2 k y0 y1 y2 y3 y4 y5 y6 y7 y8 y9) (expr_Check.j2 (k + 1) y0 y1 y2 y3 y4 y5 y6 y7 y8 y9))
  | 0 => ⟨fun _ _ r h => by simp [expr_Check.j0] at h, fun _ _ _ _ r h => by simp [expr_Check.l0] at h, fun _ _ _ _ _ _ _ _ _ _ r h => by simp [expr_Check.j2] at h⟩
  | k + 1 => by
    obtain ⟨ih0, ih1, ih2⟩ := expr_Check.mono_l k
    refine ⟨?_, ?_, ?_⟩
    · intro y0 y1
      unfold expr_Check.j0
      repeat' first
      | (with_reducible exact ih0 _ _)
      | (with_reducible exact ih1 _ _ _ _)
      | (with_reducible exact ih2 _ _ _ _ _ _ _ _ _ _)
      | (with_reducible exact expr_right.mono _ _ _ _ _ _)
      | (with_reducible exact LeO.refl _)
      | (with_reducible exact LeO.none _)
      | (with_reducible refine LeO.ite ?_ ?_)
      | (with_reducible refine LeO.bind ?_ (fun _ => ?_))
      | exact ih0 _ _
      | exact ih1 _ _ _ _
      | exact ih2 _ _ _ _ _ _ _ _ _ _
      | exact expr_right.mono _ _ _ _ _ _
      | exact LeO.none _
      | refine LeO.ite ?_ ?_
      | refine LeO.bind ?_ (fun _ => ?_)
    · intro y0 y1 y2 y3
      unfold expr_Check.l0
      repeat' first
      | (with_reducible exact ih0 _ _)
      | (with_reducible exact ih1 _ _ _ _)
      | (with_reducible exact ih2 _ _ _ _ _ _ _ _ _ _)
      | (with_reducible exact expr_right.mono _ _ _ _ _ _)
      | (with_reducible exact LeO.refl _)
      | (with_reducible exact LeO.none _)
      | (with_reducible refine LeO.ite ?_ ?_)
      | (with_reducible refine LeO.bind ?_ (fun _ => ?_))
      | exact ih0 _ _
      | exact ih1 _ _ _ _
      | exact ih2 _ _ _ _ _ _ _ _ _ _
      | exact expr_right.mono _ _ _ _ _ _
      | exact LeO.none _
      | refine LeO.ite ?_ ?_
      | refine LeO.bind ?_ (fun _ => ?_)
    · intro y0 y1 y2 y3 y4 y5 y6 y7 y8 y9
      unfold expr_Check.j2
      repeat' first
      | (with_reducible exact ih0 _ _)
      | (with_reducible exact ih1 _ _ _ _)
      | (with_reducible exact ih2 _ _ _ _ _ _ _ _ _ _)
      | (with_reducible exact expr_right.mono _ _ _ _ _ _)
      | (with_reducible exact LeO.refl _)
      | (with_reducible exact LeO.none _)
      | (with_reducible refine LeO.ite ?_ ?_)
      | (with_reducible refine LeO.bind ?_ (fun _ => ?_))
      | exact ih0 _ _
      | exact ih1 _ _ _ _
      | exact ih2 _ _ _ _ _ _ _ _ _ _
      | exact expr_right.mono _ _ _ _ _ _
      | exact LeO.none _
      | refine LeO.ite ?_ ?_
      | refine LeO.bind ?_ (fun _ => ?_)
theorem expr_Check.mono : ∀ a0 k, LeO (expr_Check.f k a0) (expr_Check.f (k + 1) a0) := by
  intro a0 k
  obtain ⟨ih0, ih1, ih2⟩ := expr_Check.mono_l k
  unfold expr_Check.f
  repeat' first
      | (with_reducible exact ih0 _ _)
      | (with_reducible exact ih1 _ _ _ _)
      | (with_reducible exact ih2 _ _ _ _ _ _ _ _ _ _)
      | (with_reducible exact expr_right.mono _ _ _ _ _ _)
      | (with_reducible exact LeO.refl _)
      | (with_reducible exact LeO.none _)
      | (with_reducible refine LeO.ite ?_ ?_)
      | (with_reducible refine LeO.bind ?_ (fun _ => ?_))
      | exact ih0 _ _
      | exact ih1 _ _ _ _
      | exact ih2 _ _ _ _ _ _ _ _ _ _
      | exact expr_right.mono _ _ _ _ _ _
      | exact LeO.none _
      | refine LeO.ite ?_ ?_
      | refine LeO.bind ?_ (fun _ => ?_)
set_option maxHeartbeats 8000000 in
set_option maxRecDepth 100000 in
theorem expr_Check.calls (k : Nat) (A0 : Option Addr) (c0 : Nat) (l0 : List (S52)) (r : Int) (w : World) (hr0 : Kd.C k52 w A0 l0.length l0) (hc0 : l0.length ≤ c0) (h : expr_Check.f k l0 = some r) :
    Calls Try.prog 28 #[.slice A0 l0.length c0] w fun e w' => e = .returned (.int .i64 r) ∧ Below w.heap.size w w' := by
  have hu52 := Try.underlying52
  have HR0 := Aside0.mk hr0
  have HC0 := Aside0.mk hc0
  clear hr0 hc0
  have HB := Aside0.mk (Below.refl w.heap.size w)
  have H : (if (l0.length : Int) < 1 then (expr_Check.j0 k l0 true) else (expr_Check.j0 k l0 (decide ((l0.length : Int) > 15)))) = some r := h
  clear h
  have HC2 := Aside0.mk H
  clear H
  go_enter Try.func28, Try.ntmps28
  go_upto_region 1 with (fail)
  go_cut [13] (fun v13 wc => ∃ (kq : Nat) (x13_1 : Bool), v13 = .bool x13_1 ∧ Aside0 (expr_Check.j0 kq l0 x13_1 = some r) ∧ Aside0 (kq ≤ k) ∧ Aside0 (Below w.heap.size w wc))
  case first =>
    have H := HC2.out
    clear HC2
    by_cases c3 : (l0.length : Int) < 1
    · rw [if_pos c3] at H
      have c3b0 : decide ((l0.length : Int) < 1) = true := decide_eq_true c3
      have c3b1 : decide (l0.length < 1) = true := decide_eq_true (by omega)
      clear c3
      (first | rw [c3b0] | (simp only [i64_w, i32_w]; rw [c3b0]) | skip)
      have H' := Aside0.mk H
      clear H
      go_wp2
      go_meet
      case rel => exact ⟨_, (true), ra_, H', ⟨by first | omega | exact Nat.le_refl _⟩, ⟨by repeat (first | (with_reducible first | exact HB.out | apply below_alloc | apply pw_below_drewN | apply below_drew1) | exact HB.out)⟩⟩
    · rw [if_neg c3] at H
      have c3b0 : decide ((l0.length : Int) < 1) = false := decide_eq_false c3
      have c3b1 : decide (l0.length < 1) = false := decide_eq_false (by omega)
      clear c3
      (first | rw [c3b0] | (simp only [i64_w, i32_w]; rw [c3b0]) | skip)
      have H' := Aside0.mk H
      clear H
      go_wp2
      go_meet
      case rel => exact ⟨_, (decide ((l0.length : Int) > 15)), ra_, H', ⟨by first | omega | exact Nat.le_refl _⟩, ⟨by repeat (first | (with_reducible first | exact HB.out | apply below_alloc | apply pw_below_drewN | apply below_drew1) | exact HB.out)⟩⟩
  case rest =>
    clear HC2
    try clear c2
    try clear p2
    try clear c3
    try clear c3b0
    try clear c3b1
    obtain ⟨kq, x13_1, rfl, HA, HJ1, HB⟩ := hcut
    cases kq with
    | zero => exact absurd HA.out (by simp [expr_Check.j0])
    | succ kj1 =>
      have H := HA.out
      clear HA
      simp only [expr_Check.j0] at H
      by_cases c4 : x13_1 = true
      · subst c4
        have H1 : (some 1) = some r := by rw [if_pos rfl] at H; exact H
        clear H
        have H := H1
        clear H1
        obtain rfl := Option.some.inj H
        go_wp2
        go_ret
        exact ⟨by first | rfl | (simp [errW_none, errW_some] <;> rfl) | (simp [*, errW_none, errW_some] <;> rfl), by repeat (first | (with_reducible first | exact HB.out | apply below_alloc | apply pw_below_drewN | apply below_drew1) | exact HB.out)⟩
      · replace c4 := Bool.eq_false_iff.mpr c4
        subst c4
        have H1 : (expr_Check.l0 kj1 0 l0 (l0.length : Int) 0) = some r := by rw [if_neg (show ¬ (false = true) by decide)] at H; exact H
        clear H
        have H := H1
        clear H1
        have H' := Aside0.mk H
        clear H
        go_wp2
        go_loopg [3, 16] kj1 (fun kq v3 v16 w' => ∃ (x3_2 : Int) (x16_2 : Int), v3 = .int .i64 x3_2 ∧ v16 = .int .i64 x16_2 ∧ Aside0 (expr_Check.l0 kq x3_2 l0 (l0.length : Int) x16_2 = some r) ∧ Aside0 (kq ≤ kj1) ∧ Aside0 (Below w.heap.size w w'))
        case atStart => exact ⟨(0), (0), ra_, ra_, H', ⟨Nat.le_refl _⟩, ⟨by repeat (first | (with_reducible first | exact HB.out | apply below_alloc | apply pw_below_drewN | apply below_drew1) | exact HB.out)⟩⟩
        case round =>
          clear H'
          try clear c2
          try clear p2
          try clear c3
          try clear c3b0
          try clear c3b1
          try clear c4
          try clear p2
          obtain ⟨x3_2, x16_2, rfl, rfl, HA, HK2, HB⟩ := hrel
          cases gk with
          | zero => exact absurd HA.out (by simp [expr_Check.l0])
          | succ k2 =>
            have H := HA.out
            clear HA
            simp only [expr_Check.l0] at H
            by_cases c5 : x16_2 < (l0.length : Int)
            · rw [if_pos c5] at H
              have c5b0 : decide (x16_2 < (l0.length : Int)) = true := decide_eq_true c5
              clear c5
              by_cases c6 : 0 ≤ x16_2
              · rw [if_pos c6] at H
                have c6b0 : decide (0 ≤ x16_2) = true := decide_eq_true c6
                clear c6
                by_cases c7 : x16_2 < (l0.length : Int)
                · rw [if_pos c7] at H
                  have c7b0 : decide (x16_2 < (l0.length : Int)) = true := decide_eq_true c7
                  clear c7
                  have HC8 := Aside0.mk H
                  clear H
                  have p221 : 0 ≤ (x16_2 : Int) := dt_
                  have q221 : x16_2 < (l0.length : Int) := dt_
                  obtain ⟨ad221, e221, hx221_0, hx221_1, hx221_2, hx221_3, hx221_4⟩ := at_T52 HR0.out x16_2 p221 q221
                  cases e221
                  replace hx221_0 := cm_ HB hx221_0
                  replace hx221_1 := cm_ HB hx221_1
                  replace hx221_2 := cm_ HB hx221_2
                  replace hx221_3 := cm_ HB hx221_3
                  replace hx221_4 := cm_ HB hx221_4
                  replace p221 := eq_true p221
                  replace q221 := eq_true q221
                  go_upto_region 7 with (first | ((with_reducible refine gate_dst (N := 5) rfl ?_); (try (refine gate_guard (by rfl) ?_; dsimp only)); refine box_event ?hg (N := 5) ?hd (cs := #[.int .i64 0, .string (⟨#[]⟩ : ByteArray), .int .i64 0, .int .i64 0, .string (⟨#[]⟩ : ByteArray)]) (t := 52) ?hr ?_; (case hd => rfl); (case hg => rfl); (case hr => first | (go_simp; done) | (go_simp; rfl)); intro gb222 hg w9 hbox hb; have n0_ := bs_ (be_ HB) hb; have n1_ := Aside0.mk (hbox); have n2_ := gs_ hg (be_ HB); have n3_ := gs_ hg (be_ HB); clear HB; have HB := n0_; have BK222 := n1_; have GW222 := n2_; have GE222 := n3_; clear n0_ n1_ n2_ n3_; clear hb hbox hg; have hcz10_0 : w9.cell? ⟨gb222, 0, none⟩ = some (.int .i64 0) := (blk_cell BK222.out 0).trans rfl; have hcz10_1 : w9.cell? ⟨gb222, 1, none⟩ = some (.string (⟨#[]⟩ : ByteArray)) := (blk_cell BK222.out 1).trans rfl; have hcz10_2 : w9.cell? ⟨gb222, 2, none⟩ = some (.int .i64 0) := (blk_cell BK222.out 2).trans rfl; have hcz10_3 : w9.cell? ⟨gb222, 3, none⟩ = some (.int .i64 0) := (blk_cell BK222.out 3).trans rfl; have hcz10_4 : w9.cell? ⟨gb222, 4, none⟩ = some (.string (⟨#[]⟩ : ByteArray)) := (blk_cell BK222.out 4).trans rfl; have hfz10_0 := blk_frozen BK222.out 0; have hfz10_1 := blk_frozen BK222.out 1; have hfz10_2 := blk_frozen BK222.out 2; have hfz10_3 := blk_frozen BK222.out 3; have hfz10_4 := blk_frozen BK222.out 4))
                  (try simp only [Act.put, List.setIfInBounds_toArray, List.set_cons_zero, List.set_cons_succ])
                  go_cut [32] (fun v32 wc => ∃ (kq : Nat) (x32_7 : Bool), v32 = .bool x32_7 ∧ Aside0 (expr_Check.j2 kq x3_2 l0 (l0.length : Int) x16_2 x32_7 ((rd_T52 l0 x16_2).f0) ((rd_T52 l0 x16_2).f1) ((rd_T52 l0 x16_2).f2.f0) ((rd_T52 l0 x16_2).f2.f1) ((rd_T52 l0 x16_2).f2.f2) = some r) ∧ Aside0 (kq ≤ k2) ∧ Aside0 (wc.heap[gb222]? = some (.cells #[.int .i64 ((rd_T52 l0 x16_2).f0), .string ((rd_T52 l0 x16_2).f1), .int .i64 ((rd_T52 l0 x16_2).f2.f0), .int .i64 ((rd_T52 l0 x16_2).f2.f1), .string ((rd_T52 l0 x16_2).f2.f2)] 52 (0, 0))) ∧ Aside0 (Below w.heap.size w wc))
                  case first =>
                    have H := HC8.out
                    clear HC8
                    replace H := Option.bind_eq_some_iff.mp H
                    obtain ⟨t223, A110, H⟩ := H
                    replace H : (if t223 = true then ((expr_pushes.f ((rd_T52 l0 x16_2).f0)).bind fun t224 => (if t224 = true then (expr_Check.j2 k2 x3_2 l0 (l0.length : Int) x16_2 false ((rd_T52 l0 x16_2).f0) ((rd_T52 l0 x16_2).f1) ((rd_T52 l0 x16_2).f2.f0) ((rd_T52 l0 x16_2).f2.f1) ((rd_T52 l0 x16_2).f2.f2)) else (expr_Check.j2 k2 x3_2 l0 (l0.length : Int) x16_2 (decide (x3_2 < 2)) ((rd_T52 l0 x16_2).f0) ((rd_T52 l0 x16_2).f1) ((rd_T52 l0 x16_2).f2.f0) ((rd_T52 l0 x16_2).f2.f1) ((rd_T52 l0 x16_2).f2.f2)))) else (expr_Check.j2 k2 x3_2 l0 (l0.length : Int) x16_2 true ((rd_T52 l0 x16_2).f0) ((rd_T52 l0 x16_2).f1) ((rd_T52 l0 x16_2).f2.f0) ((rd_T52 l0 x16_2).f2.f1) ((rd_T52 l0 x16_2).f2.f2))) = some r := H
                    have A11 := Aside0.mk A110
                    clear A110
                    by_cases c12 : t223 = true
                    · subst c12
                      have H1 : ((expr_pushes.f ((rd_T52 l0 x16_2).f0)).bind fun t224 => (if t224 = true then (expr_Check.j2 k2 x3_2 l0 (l0.length : Int) x16_2 false ((rd_T52 l0 x16_2).f0) ((rd_T52 l0 x16_2).f1) ((rd_T52 l0 x16_2).f2.f0) ((rd_T52 l0 x16_2).f2.f1) ((rd_T52 l0 x16_2).f2.f2)) else (expr_Check.j2 k2 x3_2 l0 (l0.length : Int) x16_2 (decide (x3_2 < 2)) ((rd_T52 l0 x16_2).f0) ((rd_T52 l0 x16_2).f1) ((rd_T52 l0 x16_2).f2.f0) ((rd_T52 l0 x16_2).f2.f1) ((rd_T52 l0 x16_2).f2.f2)))) = some r := by rw [if_pos rfl] at H; exact H
                      clear H
                      have H := H1
                      clear H1
                      replace H := Option.bind_eq_some_iff.mp H
                      obtain ⟨t224, A130, H⟩ := H
                      replace H : (if t224 = true then (expr_Check.j2 k2 x3_2 l0 (l0.length : Int) x16_2 false ((rd_T52 l0 x16_2).f0) ((rd_T52 l0 x16_2).f1) ((rd_T52 l0 x16_2).f2.f0) ((rd_T52 l0 x16_2).f2.f1) ((rd_T52 l0 x16_2).f2.f2)) else (expr_Check.j2 k2 x3_2 l0 (l0.length : Int) x16_2 (decide (x3_2 < 2)) ((rd_T52 l0 x16_2).f0) ((rd_T52 l0 x16_2).f1) ((rd_T52 l0 x16_2).f2.f0) ((rd_T52 l0 x16_2).f2.f1) ((rd_T52 l0 x16_2).f2.f2))) = some r := H
                      have A13 := Aside0.mk A130
                      clear A130
                      by_cases c14 : t224 = true
                      · subst c14
                        have H1 : (expr_Check.j2 k2 x3_2 l0 (l0.length : Int) x16_2 false ((rd_T52 l0 x16_2).f0) ((rd_T52 l0 x16_2).f1) ((rd_T52 l0 x16_2).f2.f0) ((rd_T52 l0 x16_2).f2.f1) ((rd_T52 l0 x16_2).f2.f2)) = some r := by rw [if_pos rfl] at H; exact H
                        clear H
                        have H := H1
                        clear H1
                        have H' := Aside0.mk H
                        clear H
                        have hcz15_0 : w9.cell? ⟨gb222, 0, none⟩ = some (.int .i64 0) := (blk_cell BK222.out 0).trans rfl
                        have hcz15_1 : w9.cell? ⟨gb222, 1, none⟩ = some (.string (⟨#[]⟩ : ByteArray)) := (blk_cell BK222.out 1).trans rfl
                        have hcz15_2 : w9.cell? ⟨gb222, 2, none⟩ = some (.int .i64 0) := (blk_cell BK222.out 2).trans rfl
                        have hcz15_3 : w9.cell? ⟨gb222, 3, none⟩ = some (.int .i64 0) := (blk_cell BK222.out 3).trans rfl
                        have hcz15_4 : w9.cell? ⟨gb222, 4, none⟩ = some (.string (⟨#[]⟩ : ByteArray)) := (blk_cell BK222.out 4).trans rfl
                        have hfz15_0 := blk_frozen BK222.out 0
                        have hfz15_1 := blk_frozen BK222.out 1
                        have hfz15_2 := blk_frozen BK222.out 2
                        have hfz15_3 := blk_frozen BK222.out 3
                        have hfz15_4 := blk_frozen BK222.out 4
                        go_wp2_with (first | ((with_reducible refine gate_callee (f := 47) rfl ?_); refine goesL_ (some 21) rfl rfl Try.func47 (by kernel_rfl) rfl #[.agg #[.int .i64 ((rd_T52 l0 x16_2).f0), .string ((rd_T52 l0 x16_2).f1), .int .i64 ((rd_T52 l0 x16_2).f2.f0), .int .i64 ((rd_T52 l0 x16_2).f2.f1), .string ((rd_T52 l0 x16_2).f2.f2)]] rfl ga_ ?_; (with_reducible refine (expr_right.calls k2 ((rd_T52 l0 x16_2).f0) ((rd_T52 l0 x16_2).f1) ((rd_T52 l0 x16_2).f2.f0) ((rd_T52 l0 x16_2).f2.f1) ((rd_T52 l0 x16_2).f2.f2) true _ A11.out).mono ?_); rintro e w16 ⟨rfl, hb⟩; refine ⟨_, rfl, ?_⟩; have n0_ := Aside0.mk (blk_below (o := .cells #[.int .i64 ((rd_T52 l0 x16_2).f0), .string ((rd_T52 l0 x16_2).f1), .int .i64 ((rd_T52 l0 x16_2).f2.f0), .int .i64 ((rd_T52 l0 x16_2).f2.f1), .string ((rd_T52 l0 x16_2).f2.f2)] 52 (0, 0)) (bp_ BK222) hb); have n1_ := bs_ (be_ HB) hb; clear BK222; clear HB; have BK222 := n0_; have HB := n1_; clear n0_ n1_; (try clear hb); (try clear hb2); (try clear hk); (try clear hi); have hcz17_0 : w16.cell? ⟨gb222, 0, none⟩ = some (.int .i64 ((rd_T52 l0 x16_2).f0)) := (blk_cell BK222.out 0).trans rfl; have hcz17_1 : w16.cell? ⟨gb222, 1, none⟩ = some (.string ((rd_T52 l0 x16_2).f1)) := (blk_cell BK222.out 1).trans rfl; have hcz17_2 : w16.cell? ⟨gb222, 2, none⟩ = some (.int .i64 ((rd_T52 l0 x16_2).f2.f0)) := (blk_cell BK222.out 2).trans rfl; have hcz17_3 : w16.cell? ⟨gb222, 3, none⟩ = some (.int .i64 ((rd_T52 l0 x16_2).f2.f1)) := (blk_cell BK222.out 3).trans rfl; have hcz17_4 : w16.cell? ⟨gb222, 4, none⟩ = some (.string ((rd_T52 l0 x16_2).f2.f2)) := (blk_cell BK222.out 4).trans rfl; have hfz17_0 := blk_frozen BK222.out 0; have hfz17_1 := blk_frozen BK222.out 1; have hfz17_2 := blk_frozen BK222.out 2; have hfz17_3 := blk_frozen BK222.out 3; have hfz17_4 := blk_frozen BK222.out 4) | (go_at_call 40; (with_reducible refine (expr_pushes.calls ((rd_T52 l0 x16_2).f0) true _ A13.out).mono ?_); rintro e w' ⟨rfl, ⟨nd, rfl⟩⟩))
                        go_meet
                        case rel => exact ⟨_, (false), ra_, H', ⟨by have := HJ1.out; have := HK2.out; first | omega | exact Nat.le_refl _⟩, ⟨by (with_reducible repeat (first | refine blk_drewN ?_ _ | refine blk_drew ?_ | refine blk_alloc ?_ _)); exact BK222.out⟩, ⟨by repeat (first | (with_reducible first | exact HB.out | apply below_alloc | apply pw_below_drewN | apply below_drew1 | refine below_set ?_ GE222.out) | exact HB.out)⟩⟩
                      · replace c14 := Bool.eq_false_iff.mpr c14
                        subst c14
                        have H1 : (expr_Check.j2 k2 x3_2 l0 (l0.length : Int) x16_2 (decide (x3_2 < 2)) ((rd_T52 l0 x16_2).f0) ((rd_T52 l0 x16_2).f1) ((rd_T52 l0 x16_2).f2.f0) ((rd_T52 l0 x16_2).f2.f1) ((rd_T52 l0 x16_2).f2.f2)) = some r := by rw [if_neg (show ¬ (false = true) by decide)] at H; exact H
                        clear H
                        have H := H1
                        clear H1
                        have H' := Aside0.mk H
                        clear H
                        have hcz18_0 : w9.cell? ⟨gb222, 0, none⟩ = some (.int .i64 0) := (blk_cell BK222.out 0).trans rfl
                        have hcz18_1 : w9.cell? ⟨gb222, 1, none⟩ = some (.string (⟨#[]⟩ : ByteArray)) := (blk_cell BK222.out 1).trans rfl
                        have hcz18_2 : w9.cell? ⟨gb222, 2, none⟩ = some (.int .i64 0) := (blk_cell BK222.out 2).trans rfl
                        have hcz18_3 : w9.cell? ⟨gb222, 3, none⟩ = some (.int .i64 0) := (blk_cell BK222.out 3).trans rfl
                        have hcz18_4 : w9.cell? ⟨gb222, 4, none⟩ = some (.string (⟨#[]⟩ : ByteArray)) := (blk_cell BK222.out 4).trans rfl
                        have hfz18_0 := blk_frozen BK222.out 0
                        have hfz18_1 := blk_frozen BK222.out 1
                        have hfz18_2 := blk_frozen BK222.out 2
                        have hfz18_3 := blk_frozen BK222.out 3
                        have hfz18_4 := blk_frozen BK222.out 4
                        go_wp2_with (first | ((with_reducible refine gate_callee (f := 47) rfl ?_); refine goesL_ (some 21) rfl rfl Try.func47 (by kernel_rfl) rfl #[.agg #[.int .i64 ((rd_T52 l0 x16_2).f0), .string ((rd_T52 l0 x16_2).f1), .int .i64 ((rd_T52 l0 x16_2).f2.f0), .int .i64 ((rd_T52 l0 x16_2).f2.f1), .string ((rd_T52 l0 x16_2).f2.f2)]] rfl ga_ ?_; (with_reducible refine (expr_right.calls k2 ((rd_T52 l0 x16_2).f0) ((rd_T52 l0 x16_2).f1) ((rd_T52 l0 x16_2).f2.f0) ((rd_T52 l0 x16_2).f2.f1) ((rd_T52 l0 x16_2).f2.f2) true _ A11.out).mono ?_); rintro e w19 ⟨rfl, hb⟩; refine ⟨_, rfl, ?_⟩; have n0_ := Aside0.mk (blk_below (o := .cells #[.int .i64 ((rd_T52 l0 x16_2).f0), .string ((rd_T52 l0 x16_2).f1), .int .i64 ((rd_T52 l0 x16_2).f2.f0), .int .i64 ((rd_T52 l0 x16_2).f2.f1), .string ((rd_T52 l0 x16_2).f2.f2)] 52 (0, 0)) (bp_ BK222) hb); have n1_ := bs_ (be_ HB) hb; clear BK222; clear HB; have BK222 := n0_; have HB := n1_; clear n0_ n1_; (try clear hb); (try clear hb2); (try clear hk); (try clear hi); have hcz20_0 : w19.cell? ⟨gb222, 0, none⟩ = some (.int .i64 ((rd_T52 l0 x16_2).f0)) := (blk_cell BK222.out 0).trans rfl; have hcz20_1 : w19.cell? ⟨gb222, 1, none⟩ = some (.string ((rd_T52 l0 x16_2).f1)) := (blk_cell BK222.out 1).trans rfl; have hcz20_2 : w19.cell? ⟨gb222, 2, none⟩ = some (.int .i64 ((rd_T52 l0 x16_2).f2.f0)) := (blk_cell BK222.out 2).trans rfl; have hcz20_3 : w19.cell? ⟨gb222, 3, none⟩ = some (.int .i64 ((rd_T52 l0 x16_2).f2.f1)) := (blk_cell BK222.out 3).trans rfl; have hcz20_4 : w19.cell? ⟨gb222, 4, none⟩ = some (.string ((rd_T52 l0 x16_2).f2.f2)) := (blk_cell BK222.out 4).trans rfl; have hfz20_0 := blk_frozen BK222.out 0; have hfz20_1 := blk_frozen BK222.out 1; have hfz20_2 := blk_frozen BK222.out 2; have hfz20_3 := blk_frozen BK222.out 3; have hfz20_4 := blk_frozen BK222.out 4) | (go_at_call 40; (with_reducible refine (expr_pushes.calls ((rd_T52 l0 x16_2).f0) false _ A13.out).mono ?_); rintro e w' ⟨rfl, ⟨nd, rfl⟩⟩))
                        go_meet
                        case rel => exact ⟨_, (decide (x3_2 < 2)), ra_, H', ⟨by have := HJ1.out; have := HK2.out; first | omega | exact Nat.le_refl _⟩, ⟨by (with_reducible repeat (first | refine blk_drewN ?_ _ | refine blk_drew ?_ | refine blk_alloc ?_ _)); exact BK222.out⟩, ⟨by repeat (first | (with_reducible first | exact HB.out | apply below_alloc | apply pw_below_drewN | apply below_drew1 | refine below_set ?_ GE222.out) | exact HB.out)⟩⟩
                    · replace c12 := Bool.eq_false_iff.mpr c12
                      subst c12
                      have H1 : (expr_Check.j2 k2 x3_2 l0 (l0.length : Int) x16_2 true ((rd_T52 l0 x16_2).f0) ((rd_T52 l0 x16_2).f1) ((rd_T52 l0 x16_2).f2.f0) ((rd_T52 l0 x16_2).f2.f1) ((rd_T52 l0 x16_2).f2.f2)) = some r := by rw [if_neg (show ¬ (false = true) by decide)] at H; exact H
                      clear H
                      have H := H1
                      clear H1
                      have H' := Aside0.mk H
                      clear H
                      have hcz21_0 : w9.cell? ⟨gb222, 0, none⟩ = some (.int .i64 0) := (blk_cell BK222.out 0).trans rfl
                      have hcz21_1 : w9.cell? ⟨gb222, 1, none⟩ = some (.string (⟨#[]⟩ : ByteArray)) := (blk_cell BK222.out 1).trans rfl
                      have hcz21_2 : w9.cell? ⟨gb222, 2, none⟩ = some (.int .i64 0) := (blk_cell BK222.out 2).trans rfl
                      have hcz21_3 : w9.cell? ⟨gb222, 3, none⟩ = some (.int .i64 0) := (blk_cell BK222.out 3).trans rfl
                      have hcz21_4 : w9.cell? ⟨gb222, 4, none⟩ = some (.string (⟨#[]⟩ : ByteArray)) := (blk_cell BK222.out 4).trans rfl
                      have hfz21_0 := blk_frozen BK222.out 0
                      have hfz21_1 := blk_frozen BK222.out 1
                      have hfz21_2 := blk_frozen BK222.out 2
                      have hfz21_3 := blk_frozen BK222.out 3
                      have hfz21_4 := blk_frozen BK222.out 4
                      go_wp2_with (first | ((with_reducible refine gate_callee (f := 47) rfl ?_); refine goesL_ (some 21) rfl rfl Try.func47 (by kernel_rfl) rfl #[.agg #[.int .i64 ((rd_T52 l0 x16_2).f0), .string ((rd_T52 l0 x16_2).f1), .int .i64 ((rd_T52 l0 x16_2).f2.f0), .int .i64 ((rd_T52 l0 x16_2).f2.f1), .string ((rd_T52 l0 x16_2).f2.f2)]] rfl ga_ ?_; (with_reducible refine (expr_right.calls k2 ((rd_T52 l0 x16_2).f0) ((rd_T52 l0 x16_2).f1) ((rd_T52 l0 x16_2).f2.f0) ((rd_T52 l0 x16_2).f2.f1) ((rd_T52 l0 x16_2).f2.f2) false _ A11.out).mono ?_); rintro e w22 ⟨rfl, hb⟩; refine ⟨_, rfl, ?_⟩; have n0_ := Aside0.mk (blk_below (o := .cells #[.int .i64 ((rd_T52 l0 x16_2).f0), .string ((rd_T52 l0 x16_2).f1), .int .i64 ((rd_T52 l0 x16_2).f2.f0), .int .i64 ((rd_T52 l0 x16_2).f2.f1), .string ((rd_T52 l0 x16_2).f2.f2)] 52 (0, 0)) (bp_ BK222) hb); have n1_ := bs_ (be_ HB) hb; clear BK222; clear HB; have BK222 := n0_; have HB := n1_; clear n0_ n1_; (try clear hb); (try clear hb2); (try clear hk); (try clear hi)))
                      go_meet
                      case rel => exact ⟨_, (true), ra_, H', ⟨by have := HJ1.out; have := HK2.out; first | omega | exact Nat.le_refl _⟩, ⟨by (with_reducible repeat (first | refine blk_drewN ?_ _ | refine blk_drew ?_ | refine blk_alloc ?_ _)); exact BK222.out⟩, ⟨by repeat (first | (with_reducible first | exact HB.out | apply below_alloc | apply pw_below_drewN | apply below_drew1 | refine below_set ?_ GE222.out) | exact HB.out)⟩⟩
                  case rest =>
                    clear HC8
                    try clear c1
                    try clear c2
                    try clear p2
                    try clear q2
                    try clear hx2
                    try clear c3
                    try clear c3b0
                    try clear c3b1
                    try clear c4
                    try clear c5
                    try clear c5b0
                    try clear c6
                    try clear c6b0
                    try clear c7
                    try clear c7b0
                    try clear c12
                    try clear c14
                    try clear p22
                    try clear q22
                    try clear hx22
                    try clear hcz10_0
                    try clear hcz10_1
                    try clear hcz10_2
                    try clear hcz10_3
                    try clear hcz10_4
                    try clear hcz15_0
                    try clear hcz15_1
                    try clear hcz15_2
                    try clear hcz15_3
                    try clear hcz15_4
                    try clear hcz17_0
                    try clear hcz17_1
                    try clear hcz17_2
                    try clear hcz17_3
                    try clear hcz17_4
                    try clear hcz18_0
                    try clear hcz18_1
                    try clear hcz18_2
                    try clear hcz18_3
                    try clear hcz18_4
                    try clear hcz20_0
                    try clear hcz20_1
                    try clear hcz20_2
                    try clear hcz20_3
                    try clear hcz20_4
                    try clear hcz21_0
                    try clear hcz21_1
                    try clear hcz21_2
                    try clear hcz21_3
                    try clear hcz21_4
                    try clear hfz10_0
                    try clear hfz10_1
                    try clear hfz10_2
                    try clear hfz10_3
                    try clear hfz10_4
                    try clear hfz15_0
                    try clear hfz15_1
                    try clear hfz15_2
                    try clear hfz15_3
                    try clear hfz15_4
                    try clear hfz17_0
                    try clear hfz17_1
                    try clear hfz17_2
                    try clear hfz17_3
                    try clear hfz17_4
                    try clear hfz18_0
                    try clear hfz18_1
                    try clear hfz18_2
                    try clear hfz18_3
                    try clear hfz18_4
                    try clear hfz20_0
                    try clear hfz20_1
                    try clear hfz20_2
                    try clear hfz20_3
                    try clear hfz20_4
                    try clear hfz21_0
                    try clear hfz21_1
                    try clear hfz21_2
                    try clear hfz21_3
                    try clear hfz21_4
                    try clear hx221_0
                    try clear hx221_1
                    try clear hx221_2
                    try clear hx221_3
                    try clear hx221_4
                    try clear p2
                    try clear p221
                    try clear q221
                    obtain ⟨kq, x32_7, rfl, HA, HJ7, BK222, HB⟩ := hcut
                    cases kq with
                    | zero => exact absurd HA.out (by simp [expr_Check.j2])
                    | succ kj7 =>
                      have H := HA.out
                      clear HA
                      simp only [expr_Check.j2] at H
                      by_cases c23 : x32_7 = true
                      · subst c23
                        have H1 : (some 1) = some r := by rw [if_pos rfl] at H; exact H
                        clear H
                        have H := H1
                        clear H1
                        obtain rfl := Option.some.inj H
                        go_wp2
                        go_ret
                        exact ⟨by first | rfl | (simp [errW_none, errW_some] <;> rfl) | (simp [*, errW_none, errW_some] <;> rfl), by repeat (first | (with_reducible first | exact HB.out | apply below_alloc | apply pw_below_drewN | apply below_drew1 | refine below_set ?_ GE222.out) | exact HB.out)⟩
                      · replace c23 := Bool.eq_false_iff.mpr c23
                        subst c23
                        have H1 : ((expr_pushes.f ((rd_T52 l0 x16_2).f0)).bind fun t225 => (if t225 = true then (expr_Check.l0 kj7 (wrap64 (x3_2 + 1)) l0 (l0.length : Int) (wrap64 (x16_2 + 1))) else (expr_Check.l0 kj7 (wrap64 (x3_2 - 1)) l0 (l0.length : Int) (wrap64 (x16_2 + 1))))) = some r := by rw [if_neg (show ¬ (false = true) by decide)] at H; exact H
                        clear H
                        have H := H1
                        clear H1
                        replace H := Option.bind_eq_some_iff.mp H
                        obtain ⟨t225, A240, H⟩ := H
                        replace H : (if t225 = true then (expr_Check.l0 kj7 (wrap64 (x3_2 + 1)) l0 (l0.length : Int) (wrap64 (x16_2 + 1))) else (expr_Check.l0 kj7 (wrap64 (x3_2 - 1)) l0 (l0.length : Int) (wrap64 (x16_2 + 1)))) = some r := H
                        have A24 := Aside0.mk A240
                        clear A240
                        by_cases c25 : t225 = true
                        · subst c25
                          have H1 : (expr_Check.l0 kj7 (wrap64 (x3_2 + 1)) l0 (l0.length : Int) (wrap64 (x16_2 + 1))) = some r := by rw [if_pos rfl] at H; exact H
                          clear H
                          have H := H1
                          clear H1
                          have H' := Aside0.mk H
                          clear H
                          have hcz26_0 : wc.cell? ⟨gb222, 0, none⟩ = some (.int .i64 ((rd_T52 l0 x16_2).f0)) := (blk_cell BK222.out 0).trans rfl
                          have hcz26_1 : wc.cell? ⟨gb222, 1, none⟩ = some (.string ((rd_T52 l0 x16_2).f1)) := (blk_cell BK222.out 1).trans rfl
                          have hcz26_2 : wc.cell? ⟨gb222, 2, none⟩ = some (.int .i64 ((rd_T52 l0 x16_2).f2.f0)) := (blk_cell BK222.out 2).trans rfl
                          have hcz26_3 : wc.cell? ⟨gb222, 3, none⟩ = some (.int .i64 ((rd_T52 l0 x16_2).f2.f1)) := (blk_cell BK222.out 3).trans rfl
                          have hcz26_4 : wc.cell? ⟨gb222, 4, none⟩ = some (.string ((rd_T52 l0 x16_2).f2.f2)) := (blk_cell BK222.out 4).trans rfl
                          have hfz26_0 := blk_frozen BK222.out 0
                          have hfz26_1 := blk_frozen BK222.out 1
                          have hfz26_2 := blk_frozen BK222.out 2
                          have hfz26_3 := blk_frozen BK222.out 3
                          have hfz26_4 := blk_frozen BK222.out 4
                          go_wp2_with (first | ((with_reducible refine gate_callee (f := 40) rfl ?_); refine goesL_ (some 35) rfl rfl Try.func40 (by kernel_rfl) rfl #[.int .i64 ((rd_T52 l0 x16_2).f0)] rfl ga_ ?_; (with_reducible refine (expr_pushes.calls ((rd_T52 l0 x16_2).f0) true _ A24.out).mono ?_); rintro e w' ⟨rfl, ⟨nd, rfl⟩⟩; refine ⟨_, rfl, ?_⟩))
                          go_roundg kj7
                          case measure => have := HJ1.out; have := HK2.out; have := HJ7.out; omega
                          case rel => exact ⟨(wrap64 (x3_2 + 1)), (wrap64 (x16_2 + 1)), ra_, ra_, H', ⟨by have := HJ1.out; have := HK2.out; have := HJ7.out; omega⟩, ⟨by repeat (first | (with_reducible first | exact HB.out | apply below_alloc | apply pw_below_drewN | apply below_drew1 | refine below_set ?_ GE222.out) | exact HB.out)⟩⟩
                        · replace c25 := Bool.eq_false_iff.mpr c25
                          subst c25
                          have H1 : (expr_Check.l0 kj7 (wrap64 (x3_2 - 1)) l0 (l0.length : Int) (wrap64 (x16_2 + 1))) = some r := by rw [if_neg (show ¬ (false = true) by decide)] at H; exact H
                          clear H
                          have H := H1
                          clear H1
                          have H' := Aside0.mk H
                          clear H
                          have hcz27_0 : wc.cell? ⟨gb222, 0, none⟩ = some (.int .i64 ((rd_T52 l0 x16_2).f0)) := (blk_cell BK222.out 0).trans rfl
                          have hcz27_1 : wc.cell? ⟨gb222, 1, none⟩ = some (.string ((rd_T52 l0 x16_2).f1)) := (blk_cell BK222.out 1).trans rfl
                          have hcz27_2 : wc.cell? ⟨gb222, 2, none⟩ = some (.int .i64 ((rd_T52 l0 x16_2).f2.f0)) := (blk_cell BK222.out 2).trans rfl
                          have hcz27_3 : wc.cell? ⟨gb222, 3, none⟩ = some (.int .i64 ((rd_T52 l0 x16_2).f2.f1)) := (blk_cell BK222.out 3).trans rfl
                          have hcz27_4 : wc.cell? ⟨gb222, 4, none⟩ = some (.string ((rd_T52 l0 x16_2).f2.f2)) := (blk_cell BK222.out 4).trans rfl
                          have hfz27_0 := blk_frozen BK222.out 0
                          have hfz27_1 := blk_frozen BK222.out 1
                          have hfz27_2 := blk_frozen BK222.out 2
                          have hfz27_3 := blk_frozen BK222.out 3
                          have hfz27_4 := blk_frozen BK222.out 4
                          go_wp2_with (first | ((with_reducible refine gate_callee (f := 40) rfl ?_); refine goesL_ (some 35) rfl rfl Try.func40 (by kernel_rfl) rfl #[.int .i64 ((rd_T52 l0 x16_2).f0)] rfl ga_ ?_; (with_reducible refine (expr_pushes.calls ((rd_T52 l0 x16_2).f0) false _ A24.out).mono ?_); rintro e w' ⟨rfl, ⟨nd, rfl⟩⟩; refine ⟨_, rfl, ?_⟩))
                          go_roundg kj7
                          case measure => have := HJ1.out; have := HK2.out; have := HJ7.out; omega
                          case rel => exact ⟨(wrap64 (x3_2 - 1)), (wrap64 (x16_2 + 1)), ra_, ra_, H', ⟨by have := HJ1.out; have := HK2.out; have := HJ7.out; omega⟩, ⟨by repeat (first | (with_reducible first | exact HB.out | apply below_alloc | apply pw_below_drewN | apply below_drew1 | refine below_set ?_ GE222.out) | exact HB.out)⟩⟩
                · rw [if_neg c7] at H
                  exact absurd H (by simp)
              · rw [if_neg c6] at H
                exact absurd H (by simp)
            · rw [if_neg c5] at H
              have c5b0 : decide (x16_2 < (l0.length : Int)) = false := decide_eq_false c5
              clear c5
              by_cases c28 : x3_2 = 1
              · rw [if_pos c28] at H
                obtain ⟨c28b0, c28b1⟩ := eqB_ c28
                clear c28
                obtain rfl := Option.some.inj H
                go_wp2
                go_ret
                exact ⟨by first | rfl | (simp [errW_none, errW_some] <;> rfl) | (simp [*, errW_none, errW_some] <;> rfl), by repeat (first | (with_reducible first | exact HB.out | apply below_alloc | apply pw_below_drewN | apply below_drew1) | exact HB.out)⟩
              · rw [if_neg c28] at H
                obtain ⟨c28b0, c28b1⟩ := neB_ c28
                obtain rfl := Option.some.inj H
                go_wp2
                go_ret
                exact ⟨by first | rfl | (simp [errW_none, errW_some] <;> rfl) | (simp [*, errW_none, errW_some] <;> rfl), by repeat (first | (with_reducible first | exact HB.out | apply below_alloc | apply pw_below_drewN | apply below_drew1) | exact HB.out)⟩
end Go.Proofs.Ytconpnagoijacaa.P
end
section
namespace Go.Proofs.Ytconpnagoijacaa.P
open Go.RowKit Go.Proofs.YtconpnagoijacaaW.PrintWords Go.Proofs.YtconpnagoijacaaW.PrintLast Go.Proofs.YtconpnagoijacaaW.PrintMore
attribute [local go_sem] max2_int min2_int max_two min_two max_three min_three max_four min_four
set_option linter.unusedVariables false
set_option linter.unusedSimpArgs false
def subst_right.f (k : Nat) (a0_0 : ByteArray) (a0_1 : Int) (a0_2 : Int) (a0_3 : ByteArray) : Option (Bool) := (subst_Var.f k a0_0).bind fun t227 => (if t227 = true then ((val_Check.f k a0_1 a0_2 a0_3).bind fun t228 => (some (t228 == 0))) else (some false))
theorem subst_right.mono : ∀ a0 a1 a2 a3 k, LeO (subst_right.f k a0 a1 a2 a3) (subst_right.f (k + 1) a0 a1 a2 a3) := by
  intro a0 a1 a2 a3 k
  unfold subst_right.f
  repeat' first
      | (with_reducible exact subst_Var.mono _ _)
      | (with_reducible exact val_Check.mono _ _ _ _)
      | (with_reducible exact LeO.refl _)
      | (with_reducible exact LeO.none _)
      | (with_reducible refine LeO.ite ?_ ?_)
      | (with_reducible refine LeO.bind ?_ (fun _ => ?_))
      | exact subst_Var.mono _ _
      | exact val_Check.mono _ _ _ _
      | exact LeO.none _
      | refine LeO.ite ?_ ?_
      | refine LeO.bind ?_ (fun _ => ?_)
set_option maxHeartbeats 8000000 in
set_option maxRecDepth 100000 in
theorem subst_right.calls (k : Nat) (a0_0 : ByteArray) (a0_1 : Int) (a0_2 : Int) (a0_3 : ByteArray) (r : Bool) (w : World) (h : subst_right.f k a0_0 a0_1 a0_2 a0_3 = some r) :
    Calls Try.prog 51 #[.agg #[.string a0_0, .int .i64 a0_1, .int .i64 a0_2, .string a0_3]] w fun e w' => e = .returned (.bool r) ∧ Below w.heap.size w w' := by
  have hu62 := Try.underlying62
  have hu40 := Try.underlying40
  have HB := Aside0.mk (Below.refl w.heap.size w)
  have H : ((subst_Var.f k a0_0).bind fun t227 => (if t227 = true then ((val_Check.f k a0_1 a0_2 a0_3).bind fun t228 => (some (t228 == 0))) else (some false))) = some r := h
  clear h
  replace H := Option.bind_eq_some_iff.mp H
  obtain ⟨t227, A20, H⟩ := H
  replace H : (if t227 = true then ((val_Check.f k a0_1 a0_2 a0_3).bind fun t228 => (some (t228 == 0))) else (some false)) = some r := H
  have A2 := Aside0.mk A20
  clear A20
  by_cases c3 : t227 = true
  · subst c3
    have H1 : ((val_Check.f k a0_1 a0_2 a0_3).bind fun t228 => (some (t228 == 0))) = some r := by rw [if_pos rfl] at H; exact H
    clear H
    have H := H1
    clear H1
    replace H := Option.bind_eq_some_iff.mp H
    obtain ⟨t228, A40, H⟩ := H
    replace H : (some (t228 == 0)) = some r := H
    have A4 := Aside0.mk A40
    clear A40
    obtain rfl := Option.some.inj H
    go_enter Try.func51, Try.ntmps51
    go_wp2_with (first | ((with_reducible refine gate_dst (N := 1) rfl ?_); refine box_event ?hg (N := 1) ?hd (cs := #[.string a0_0, .int .i64 a0_1, .int .i64 a0_2, .string a0_3]) (t := 62) ?hr ?_; (case hd => rfl); (case hg => rfl); (case hr => first | (go_simp; done) | (go_simp; rfl)); intro gb226 hg w5 hbox hb; have n0_ := bs_ (be_ HB) hb; have n1_ := Aside0.mk (hbox); have n2_ := gs_ hg (be_ HB); have n3_ := gs_ hg (be_ HB); clear HB; have HB := n0_; have BK226 := n1_; have GW226 := n2_; have GE226 := n3_; clear n0_ n1_ n2_ n3_; clear hb hbox hg; have hcz6_0 : w5.cell? ⟨gb226, 0, none⟩ = some (.string a0_0) := (blk_cell BK226.out 0).trans rfl; have hcz6_1 : w5.cell? ⟨gb226, 1, none⟩ = some (.int .i64 a0_1) := (blk_cell BK226.out 1).trans rfl; have hcz6_2 : w5.cell? ⟨gb226, 2, none⟩ = some (.int .i64 a0_2) := (blk_cell BK226.out 2).trans rfl; have hcz6_3 : w5.cell? ⟨gb226, 3, none⟩ = some (.string a0_3) := (blk_cell BK226.out 3).trans rfl; have hfz6_0 := blk_frozen BK226.out 0; have hfz6_1 := blk_frozen BK226.out 1; have hfz6_2 := blk_frozen BK226.out 2; have hfz6_3 := blk_frozen BK226.out 3) | ((with_reducible refine gate_callee (f := 57) rfl ?_); refine goesL_ (some 5) rfl rfl Try.func57 (by kernel_rfl) rfl #[.string a0_0] rfl ga_ ?_; (with_reducible refine (subst_Var.calls k a0_0 true _ A2.out).mono ?_); rintro e w' ⟨rfl, ⟨nd, rfl⟩⟩; refine ⟨_, rfl, ?_⟩) | (go_at_call 58; (with_reducible refine (val_Check.calls k a0_1 a0_2 a0_3 t228 _ A4.out).mono ?_); rintro e w7 ⟨rfl, hb⟩; have n0_ := bb_ (bu_ BK226) hb; have n1_ := bs_ (be_ HB) hb; clear BK226; clear HB; have BK226 := n0_; have HB := n1_; clear n0_ n1_; (try clear hb); (try clear hb2); (try clear hk); (try clear hi)))
    go_ret
    exact ⟨by first | rfl | (simp [errW_none, errW_some] <;> rfl) | (simp [*, errW_none, errW_some] <;> rfl), by repeat (first | (with_reducible first | exact HB.out | apply below_alloc | apply pw_below_drewN | apply below_drew1 | refine below_set ?_ GE226.out) | exact HB.out)⟩
  · replace c3 := Bool.eq_false_iff.mpr c3
    subst c3
    have H1 : (some false) = some r := by rw [if_neg (show ¬ (false = true) by decide)] at H; exact H
    clear H
    have H := H1
    clear H1
    obtain rfl := Option.some.inj H
    go_enter Try.func51, Try.ntmps51
    go_wp2_with (first | ((with_reducible refine gate_dst (N := 1) rfl ?_); refine box_event ?hg (N := 1) ?hd (cs := #[.string a0_0, .int .i64 a0_1, .int .i64 a0_2, .string a0_3]) (t := 62) ?hr ?_; (case hd => rfl); (case hg => rfl); (case hr => first | (go_simp; done) | (go_simp; rfl)); intro gb226 hg w8 hbox hb; have n0_ := bs_ (be_ HB) hb; have n1_ := Aside0.mk (hbox); have n2_ := gs_ hg (be_ HB); have n3_ := gs_ hg (be_ HB); clear HB; have HB := n0_; have BK226 := n1_; have GW226 := n2_; have GE226 := n3_; clear n0_ n1_ n2_ n3_; clear hb hbox hg; have hcz9_0 : w8.cell? ⟨gb226, 0, none⟩ = some (.string a0_0) := (blk_cell BK226.out 0).trans rfl; have hcz9_1 : w8.cell? ⟨gb226, 1, none⟩ = some (.int .i64 a0_1) := (blk_cell BK226.out 1).trans rfl; have hcz9_2 : w8.cell? ⟨gb226, 2, none⟩ = some (.int .i64 a0_2) := (blk_cell BK226.out 2).trans rfl; have hcz9_3 : w8.cell? ⟨gb226, 3, none⟩ = some (.string a0_3) := (blk_cell BK226.out 3).trans rfl; have hfz9_0 := blk_frozen BK226.out 0; have hfz9_1 := blk_frozen BK226.out 1; have hfz9_2 := blk_frozen BK226.out 2; have hfz9_3 := blk_frozen BK226.out 3) | ((with_reducible refine gate_callee (f := 57) rfl ?_); refine goesL_ (some 5) rfl rfl Try.func57 (by kernel_rfl) rfl #[.string a0_0] rfl ga_ ?_; (with_reducible refine (subst_Var.calls k a0_0 false _ A2.out).mono ?_); rintro e w' ⟨rfl, ⟨nd, rfl⟩⟩; refine ⟨_, rfl, ?_⟩))
    go_ret
    exact ⟨by first | rfl | (simp [errW_none, errW_some] <;> rfl) | (simp [*, errW_none, errW_some] <;> rfl), by repeat (first | (with_reducible first | exact HB.out | apply below_alloc | apply pw_below_drewN | apply below_drew1 | refine below_set ?_ GE226.out) | exact HB.out)⟩
end Go.Proofs.Ytconpnagoijacaa.P
end
section
namespace Go.Proofs.Ytconpnagoijacaa.P
open Go.RowKit Go.Proofs.YtconpnagoijacaaW.PrintWords Go.Proofs.YtconpnagoijacaaW.PrintLast Go.Proofs.YtconpnagoijacaaW.PrintMore
attribute [local go_sem] max2_int min2_int max_two min_two max_three min_three max_four min_four
set_option linter.unusedVariables false
set_option linter.unusedSimpArgs false
def subst_Check.l0 : Nat → List (S62) → List (S62) → Int → Int → Option (Int)
  | 0, _, _, _, _ => none
  | k + 1, x0, x8, x9, x10 => if x10 < x9 then (if 0 ≤ x10 then (if x10 < (x8.length : Int) then ((subst_right.f k ((rd_T62 x8 x10).f0) ((rd_T62 x8 x10).f1.f0) ((rd_T62 x8 x10).f1.f1) ((rd_T62 x8 x10).f1.f2)).bind fun t231 => (if t231 = true then (if x10 > 0 then (if 0 ≤ (wrap64 (x10 - 1)) then (if (wrap64 (x10 - 1)) < (x0.length : Int) then (if ((Op.bytesLess (((rd_T62 x0 (wrap64 (x10 - 1))).f0).toList) (((rd_T62 x8 x10).f0).toList)) = true) then (subst_Check.l0 k x0 x8 x9 (wrap64 (x10 + 1))) else (some 1)) else (none)) else (none)) else (subst_Check.l0 k x0 x8 x9 (wrap64 (x10 + 1)))) else (some 1))) else (none)) else (none)) else (some 0)
def subst_Check.f (k : Nat) (l0 : List (S62)) : Option (Int) := if (l0.length : Int) > 100 then (some 1) else (subst_Check.l0 k l0 l0 (l0.length : Int) 0)
theorem subst_Check.mono_l : ∀ k, (∀ y0 y1 y2 y3, LeO (subst_Check.l0 k y0 y1 y2 y3) (subst_Check.l0 (k + 1) y0 y1 y2 y3))
  | 0 => fun _ _ _ _ r h => by simp [subst_Check.l0] at h
  | k + 1 => by
    have ih0 := subst_Check.mono_l k
    · intro y0 y1 y2 y3
      unfold subst_Check.l0
      repeat' first
      | (with_reducible exact ih0 _ _ _ _)
      | (with_reducible exact subst_right.mono _ _ _ _ _)
      | (with_reducible exact LeO.refl _)
      | (with_reducible exact LeO.none _)
      | (with_reducible refine LeO.ite ?_ ?_)
      | (with_reducible refine LeO.bind ?_ (fun _ => ?_))
      | exact ih0 _ _ _ _
      | exact subst_right.mono _ _ _ _ _
      | exact LeO.none _
      | refine LeO.ite ?_ ?_
      | refine LeO.bind ?_ (fun _ => ?_)
theorem subst_Check.mono : ∀ a0 k, LeO (subst_Check.f k a0) (subst_Check.f (k + 1) a0) := by
  intro a0 k
  have ih0 := subst_Check.mono_l k
  unfold subst_Check.f
  repeat' first
      | (with_reducible exact ih0 _ _ _ _)
      | (with_reducible exact subst_right.mono _ _ _ _ _)
      | (with_reducible exact LeO.refl _)
      | (with_reducible exact LeO.none _)
      | (with_reducible refine LeO.ite ?_ ?_)
      | (with_reducible refine LeO.bind ?_ (fun _ => ?_))
      | exact ih0 _ _ _ _
      | exact subst_right.mono _ _ _ _ _
      | exact LeO.none _
      | refine LeO.ite ?_ ?_
      | refine LeO.bind ?_ (fun _ => ?_)
def subst_Check.T6 : Bool × List (List Nat × List Nat) := (true, [([], []), ([0], [0]), ([1], [1]), ([2, 1], [2]), ([3], [3]), ([4, 3], [3, 4]), ([5, 3, 3], [3, 5]), ([6], [6]), ([6], [6]), ([8, 6], [6, 8]), ([7, 9, 6], [6, 7, 9]), ([10, 6], [6, 10]), ([11, 6], [6, 11]), ([6], [6]), ([13, 6], [6, 13]), ([12, 14, 6], [6, 12, 14]), ([6, 15, 3], [3, 6, 15]), ([3, 16], [3, 16])])
def subst_Check.B6 : List Nat := [0, 1, 3, 7, 15, 31, 63, 127, 127, 383, 1023, 2047, 4095, 127, 8319, 32767, 65535, 131071]
theorem subst_Check.tab6 : rtab .any (opsOf Try.f39 6) = subst_Check.T6 := by kernel_rfl
theorem subst_Check.bits6 : waitsOk subst_Check.T6.2 subst_Check.B6 = true := by kernel_rfl
set_option maxHeartbeats 8000000 in
set_option maxRecDepth 100000 in
theorem subst_Check.calls (k : Nat) (A0 : Option Addr) (c0 : Nat) (l0 : List (S62)) (r : Int) (w : World) (hr0 : Kd.C k62 w A0 l0.length l0) (hc0 : l0.length ≤ c0) (h : subst_Check.f k l0 = some r) :
    Calls Try.prog 39 #[.slice A0 l0.length c0] w fun e w' => e = .returned (.int .i64 r) ∧ Below w.heap.size w w' := by
  have hu62 := Try.underlying62
  have HR0 := Aside0.mk hr0
  have HC0 := Aside0.mk hc0
  clear hr0 hc0
  have HB := Aside0.mk (Below.refl w.heap.size w)
  have H : (if (l0.length : Int) > 100 then (some 1) else (subst_Check.l0 k l0 l0 (l0.length : Int) 0)) = some r := h
  clear h
  by_cases c2 : (l0.length : Int) > 100
  · rw [if_pos c2] at H
    have c2b0 : decide (100 < (l0.length : Int)) = true := decide_eq_true c2
    have c2b1 : decide (100 < l0.length) = true := decide_eq_true (by omega)
    clear c2
    obtain rfl := Option.some.inj H
    go_enter Try.func39, Try.ntmps39
    go_wp2
    go_ret
    exact ⟨by first | rfl | (simp [errW_none, errW_some] <;> rfl) | (simp [*, errW_none, errW_some] <;> rfl), by repeat (first | (with_reducible first | exact HB.out | apply below_alloc | apply pw_below_drewN | apply below_drew1) | exact HB.out)⟩
  · rw [if_neg c2] at H
    have c2b0 : decide (100 < (l0.length : Int)) = false := decide_eq_false c2
    have c2b1 : decide (100 < l0.length) = false := decide_eq_false (by omega)
    clear c2
    have H' := Aside0.mk H
    clear H
    go_enter Try.func39, Try.ntmps39
    go_wp2
    go_loopg [10] k (fun kq v10 w' => ∃ (x10_1 : Int), v10 = .int .i64 x10_1 ∧ Aside0 (subst_Check.l0 kq l0 l0 (l0.length : Int) x10_1 = some r) ∧ Aside0 (kq ≤ k) ∧ Aside0 (Below w.heap.size w w'))
    case atStart => exact ⟨(0), ra_, H', ⟨Nat.le_refl _⟩, ⟨by repeat (first | (with_reducible first | exact HB.out | apply below_alloc | apply pw_below_drewN | apply below_drew1) | exact HB.out)⟩⟩
    case round =>
      clear H'
      try clear c2
      try clear c2b0
      try clear c2b1
      try clear p2
      obtain ⟨x10_1, rfl, HA, HK1, HB⟩ := hrel
      cases gk with
      | zero => exact absurd HA.out (by simp [subst_Check.l0])
      | succ k1 =>
        have H := HA.out
        clear HA
        simp only [subst_Check.l0] at H
        by_cases c3 : x10_1 < (l0.length : Int)
        · rw [if_pos c3] at H
          have c3b0 : decide (x10_1 < (l0.length : Int)) = true := decide_eq_true c3
          clear c3
          by_cases c4 : 0 ≤ x10_1
          · rw [if_pos c4] at H
            have c4b0 : decide (0 ≤ x10_1) = true := decide_eq_true c4
            clear c4
            by_cases c5 : x10_1 < (l0.length : Int)
            · rw [if_pos c5] at H
              have c5b0 : decide (x10_1 < (l0.length : Int)) = true := decide_eq_true c5
              clear c5
              replace H := Option.bind_eq_some_iff.mp H
              obtain ⟨t231, A60, H⟩ := H
              replace H : (if t231 = true then (if x10_1 > 0 then (if 0 ≤ (wrap64 (x10_1 - 1)) then (if (wrap64 (x10_1 - 1)) < (l0.length : Int) then (if ((Op.bytesLess (((rd_T62 l0 (wrap64 (x10_1 - 1))).f0).toList) (((rd_T62 l0 x10_1).f0).toList)) = true) then (subst_Check.l0 k1 l0 l0 (l0.length : Int) (wrap64 (x10_1 + 1))) else (some 1)) else (none)) else (none)) else (subst_Check.l0 k1 l0 l0 (l0.length : Int) (wrap64 (x10_1 + 1)))) else (some 1)) = some r := H
              have A6 := Aside0.mk A60
              clear A60
              by_cases c7 : t231 = true
              · subst c7
                have H1 : (if x10_1 > 0 then (if 0 ≤ (wrap64 (x10_1 - 1)) then (if (wrap64 (x10_1 - 1)) < (l0.length : Int) then (if ((Op.bytesLess (((rd_T62 l0 (wrap64 (x10_1 - 1))).f0).toList) (((rd_T62 l0 x10_1).f0).toList)) = true) then (subst_Check.l0 k1 l0 l0 (l0.length : Int) (wrap64 (x10_1 + 1))) else (some 1)) else (none)) else (none)) else (subst_Check.l0 k1 l0 l0 (l0.length : Int) (wrap64 (x10_1 + 1)))) = some r := by rw [if_pos rfl] at H; exact H
                clear H
                have H := H1
                clear H1
                by_cases c8 : x10_1 > 0
                · rw [if_pos c8] at H
                  have c8b0 : decide (0 < x10_1) = true := decide_eq_true c8
                  clear c8
                  obtain ⟨ji9, hji9⟩ : ∃ j_ : Int, (wrap64 (x10_1 - 1)) = j_ := ⟨_, rfl⟩
                  replace H : (if 0 ≤ (ji9) then (if (ji9) < (l0.length : Int) then (if ((Op.bytesLess (((rd_T62 l0 (ji9)).f0).toList) (((rd_T62 l0 x10_1).f0).toList)) = true) then (subst_Check.l0 k1 l0 l0 (l0.length : Int) (wrap64 (x10_1 + 1))) else (some 1)) else (none)) else (none)) = some r := by first | (rw [hji9] at H; exact H) | (simp only [hji9] at H ⊢; exact H)
                  (try rw [hji9] at A6)
                  have hji9w : (IntKind.i64.wrap (x10_1 - 1)) = ji9 := (i64_w _).trans hji9
                  by_cases c10 : 0 ≤ (ji9)
                  · rw [if_pos c10] at H
                    have c10b0 : decide (0 ≤ (ji9)) = true := decide_eq_true c10
                    clear c10
                    by_cases c11 : (ji9) < (l0.length : Int)
                    · rw [if_pos c11] at H
                      have c11b0 : decide ((ji9) < (l0.length : Int)) = true := decide_eq_true c11
                      clear c11
                      by_cases c12 : ((Op.bytesLess (((rd_T62 l0 (ji9)).f0).toList) (((rd_T62 l0 x10_1).f0).toList)) = true)
                      · rw [if_pos c12] at H
                        have c12b0 : (Op.bytesLess (((rd_T62 l0 (ji9)).f0).toList) (((rd_T62 l0 x10_1).f0).toList)) = true := c12
                        clear c12
                        have H' := Aside0.mk H
                        clear H
                        have p229 : 0 ≤ (x10_1 : Int) := dt_
                        have q229 : x10_1 < (l0.length : Int) := dt_
                        obtain ⟨ad229, e229, hx229_0, hx229_1, hx229_2, hx229_3⟩ := at_T62 HR0.out x10_1 p229 q229
                        cases e229
                        replace hx229_0 := cm_ HB hx229_0
                        replace hx229_1 := cm_ HB hx229_1
                        replace hx229_2 := cm_ HB hx229_2
                        replace hx229_3 := cm_ HB hx229_3
                        replace p229 := eq_true p229
                        replace q229 := eq_true q229
                        try go_wp2_with (first | ((with_reducible refine gate_dst (N := 4) rfl ?_); refine box_event ?hg (N := 4) ?hd (cs := #[.string (⟨#[]⟩ : ByteArray), .int .i64 0, .int .i64 0, .string (⟨#[]⟩ : ByteArray)]) (t := 62) ?hr ?_; (case hd => rfl); (case hg => rfl); (case hr => first | (go_simp; done) | (go_simp; rfl)); intro gb230 hg w13 hbox hb; have n0_ := bs_ (be_ HB) hb; have n1_ := Aside0.mk (hbox); have n2_ := gs_ hg (be_ HB); have n3_ := gs_ hg (be_ HB); clear HB; have HB := n0_; have BK230 := n1_; have GW230 := n2_; have GE230 := n3_; clear n0_ n1_ n2_ n3_; clear hb hbox hg; have hcz14_0 : w13.cell? ⟨gb230, 0, none⟩ = some (.string (⟨#[]⟩ : ByteArray)) := (blk_cell BK230.out 0).trans rfl; have hcz14_1 : w13.cell? ⟨gb230, 1, none⟩ = some (.int .i64 0) := (blk_cell BK230.out 1).trans rfl; have hcz14_2 : w13.cell? ⟨gb230, 2, none⟩ = some (.int .i64 0) := (blk_cell BK230.out 2).trans rfl; have hcz14_3 : w13.cell? ⟨gb230, 3, none⟩ = some (.string (⟨#[]⟩ : ByteArray)) := (blk_cell BK230.out 3).trans rfl; have hfz14_0 := blk_frozen BK230.out 0; have hfz14_1 := blk_frozen BK230.out 1; have hfz14_2 := blk_frozen BK230.out 2; have hfz14_3 := blk_frozen BK230.out 3))
                        have n0_ : Aside0 (((((w13.setCell ⟨gb230, 0, none⟩ (.string ((rd_T62 l0 x10_1).f0))).setCell ⟨gb230, 1, none⟩ (.int .i64 ((rd_T62 l0 x10_1).f1.f0))).setCell ⟨gb230, 2, none⟩ (.int .i64 ((rd_T62 l0 x10_1).f1.f1))).setCell ⟨gb230, 3, none⟩ (.string ((rd_T62 l0 x10_1).f1.f2))).heap[gb230]? = some (.cells #[.string ((rd_T62 l0 x10_1).f0), .int .i64 ((rd_T62 l0 x10_1).f1.f0), .int .i64 ((rd_T62 l0 x10_1).f1.f1), .string ((rd_T62 l0 x10_1).f1.f2)] 62 (0, 0))) := ⟨by (with_reducible repeat (first | refine blk_drewN ?_ _ | refine blk_drew ?_ | refine blk_alloc ?_ _)); refine blk_put (cs := #[.string ((rd_T62 l0 x10_1).f0), .int .i64 ((rd_T62 l0 x10_1).f1.f0), .int .i64 ((rd_T62 l0 x10_1).f1.f1), .string (⟨#[]⟩ : ByteArray)]) ?_ 3 _ rfl; (with_reducible repeat (first | refine blk_drewN ?_ _ | refine blk_drew ?_ | refine blk_alloc ?_ _)); refine blk_put (cs := #[.string ((rd_T62 l0 x10_1).f0), .int .i64 ((rd_T62 l0 x10_1).f1.f0), .int .i64 0, .string (⟨#[]⟩ : ByteArray)]) ?_ 2 _ rfl; (with_reducible repeat (first | refine blk_drewN ?_ _ | refine blk_drew ?_ | refine blk_alloc ?_ _)); refine blk_put (cs := #[.string ((rd_T62 l0 x10_1).f0), .int .i64 0, .int .i64 0, .string (⟨#[]⟩ : ByteArray)]) ?_ 1 _ rfl; (with_reducible repeat (first | refine blk_drewN ?_ _ | refine blk_drew ?_ | refine blk_alloc ?_ _)); refine blk_put (cs := #[.string (⟨#[]⟩ : ByteArray), .int .i64 0, .int .i64 0, .string (⟨#[]⟩ : ByteArray)]) ?_ 0 _ rfl; (with_reducible repeat (first | refine blk_drewN ?_ _ | refine blk_drew ?_ | refine blk_alloc ?_ _)); exact BK230.out⟩
                        have n1_ : Aside0 (Below w.heap.size w ((((w13.setCell ⟨gb230, 0, none⟩ (.string ((rd_T62 l0 x10_1).f0))).setCell ⟨gb230, 1, none⟩ (.int .i64 ((rd_T62 l0 x10_1).f1.f0))).setCell ⟨gb230, 2, none⟩ (.int .i64 ((rd_T62 l0 x10_1).f1.f1))).setCell ⟨gb230, 3, none⟩ (.string ((rd_T62 l0 x10_1).f1.f2)))) := ⟨by repeat (first | (with_reducible first | exact HB.out | apply below_alloc | apply pw_below_drewN | apply below_drew1 | refine below_set ?_ GE230.out) | exact HB.out)⟩
                        (try clear BK230)
                        (try clear HB)
                        generalize ((((w13.setCell ⟨gb230, 0, none⟩ (.string ((rd_T62 l0 x10_1).f0))).setCell ⟨gb230, 1, none⟩ (.int .i64 ((rd_T62 l0 x10_1).f1.f0))).setCell ⟨gb230, 2, none⟩ (.int .i64 ((rd_T62 l0 x10_1).f1.f1))).setCell ⟨gb230, 3, none⟩ (.string ((rd_T62 l0 x10_1).f1.f2))) = w15 at n0_ n1_ ⊢
                        have BK230 := n0_
                        have HB := n1_
                        clear n0_ n1_
                        have n0_ := Aside0.mk (blk_drew BK230.out)
                        have n1_ := Aside0.mk (below_drew1 HB.out)
                        clear BK230
                        clear HB
                        have BK230 := n0_
                        have HB := n1_
                        clear n0_ n1_
                        have p232 : 0 ≤ ((ji9) : Int) := dt_
                        have q232 : (ji9) < (l0.length : Int) := dt_
                        obtain ⟨ad232, e232, hx232_0, hx232_1, hx232_2, hx232_3⟩ := at_T62 HR0.out (ji9) p232 q232
                        have hw232_3 := hx232_3
                        have hw232_2 := hx232_2
                        have hw232_1 := hx232_1
                        have hw232_0 := hx232_0
                        obtain rfl : ad229 = ad232 := (by injection e232)
                        replace hx232_0 := cm_ HB hx232_0
                        replace hx232_1 := cm_ HB hx232_1
                        replace hx232_2 := cm_ HB hx232_2
                        replace hx232_3 := cm_ HB hx232_3
                        replace p232 := eq_true p232
                        replace q232 := eq_true q232
                        refine start_ (n := 18) (S := fun w' => w'.cell? ⟨gb230, 0, none⟩ = some (.string ((rd_T62 l0 x10_1).f0)) ∧ w'.cell? ⟨gb230, 1, none⟩ = some (.int .i64 ((rd_T62 l0 x10_1).f1.f0)) ∧ w'.cell? ⟨gb230, 2, none⟩ = some (.int .i64 ((rd_T62 l0 x10_1).f1.f1)) ∧ w'.cell? ⟨gb230, 3, none⟩ = some (.string ((rd_T62 l0 x10_1).f1.f2)) ∧ w'.cell? (ad229.add (((ji9)).toNat * 4)) = some (.string ((rd_T62 l0 (ji9)).f0)) ∧ w'.cell? ⟨(ad229.add (((ji9)).toNat * 4)).block, (ad229.add (((ji9)).toNat * 4)).off + 1, none⟩ = some (.int .i64 ((rd_T62 l0 (ji9)).f1.f0)) ∧ w'.cell? ⟨(ad229.add (((ji9)).toNat * 4)).block, (ad229.add (((ji9)).toNat * 4)).off + 2, none⟩ = some (.int .i64 ((rd_T62 l0 (ji9)).f1.f1)) ∧ w'.cell? ⟨(ad229.add (((ji9)).toNat * 4)).block, (ad229.add (((ji9)).toNat * 4)).off + 3, none⟩ = some (.string ((rd_T62 l0 (ji9)).f1.f2))) (ds := []) (mk_ 18 0) (by kernel_rfl) rfl rfl ⟨(blk_cell BK230.out 0).trans rfl, (blk_cell BK230.out 1).trans rfl, (blk_cell BK230.out 2).trans rfl, (blk_cell BK230.out 3).trans rfl, (cl_ HB hw232_0), (cl_ HB hw232_1), (cl_ HB hw232_2), (cl_ HB hw232_3)⟩ (fun hHeld => ?_); refine with_tabW subst_Check.tab6 subst_Check.bits6 (fun HT_ HW_ => ?_)
                        generalize w15.drew = w16 at BK230 HB hx232_0 hx232_1 hx232_2 hx232_3 hHeld ⊢
                        refine tk_ 0 15 1 HT_ HW_ hHeld ?_
                        refine one_ (i := 1) (N := some 16) (mk_ 18 3) rfl rfl (one_of HT_.out (by kernel_rfl)) (by decide) (fun K hK => ?_)
                        refine goes_ Try.func51 (by kernel_rfl) rfl #[.agg #[.string ((rd_T62 l0 x10_1).f0), .int .i64 ((rd_T62 l0 x10_1).f1.f0), .int .i64 ((rd_T62 l0 x10_1).f1.f1), .string ((rd_T62 l0 x10_1).f1.f2)]] (by rfl) rfl rfl ga_ ?_
                        with_reducible refine (subst_right.calls k1 ((rd_T62 l0 x10_1).f0) ((rd_T62 l0 x10_1).f1.f0) ((rd_T62 l0 x10_1).f1.f1) ((rd_T62 l0 x10_1).f1.f2) true _ A6.out).mono ?_
                        rintro e w17 ⟨rfl, hb⟩
                        refine ⟨_, rfl, ?_⟩
                        have n0_ := bb_ (bu_ BK230) hb
                        have n1_ := bs_ (be_ HB) hb
                        clear BK230
                        clear HB
                        have BK230 := n0_
                        have HB := n1_
                        clear n0_ n1_
                        (try clear hb)
                        (try clear hb2)
                        (try clear hk)
                        (try clear hi)
                        refine hK.out _ _ ⟨(blk_cell BK230.out 0).trans rfl, (blk_cell BK230.out 1).trans rfl, (blk_cell BK230.out 2).trans rfl, (blk_cell BK230.out 3).trans rfl, (cl_ HB hw232_0), (cl_ HB hw232_1), (cl_ HB hw232_2), (cl_ HB hw232_3)⟩ (fun hHeld => ?_)
                        clear hK K
                        refine nm_ 16 ?_; refine pu_ 2 17 7 HT_ ?_; refine pu_ 3 18 15 HT_ ?_; refine pu_ 4 19 31 HT_ ?_; refine pu_ 5 20 63 HT_ ?_; refine pu_ 6 21 127 HT_ ?_; refine pu_ 7 22 255 HT_ ?_; refine pu_ 8 23 511 HT_ ?_; refine pu_ 9 24 1023 HT_ ?_; refine pu_ 10 25 2047 HT_ ?_; refine pu_ 11 26 4095 HT_ ?_; refine pu_ 13 28 12287 HT_ ?_; refine tk_ 12 27 16383 HT_ HW_ hHeld ?_; refine tk_ 14 29 32767 HT_ HW_ hHeld ?_; refine pu_ 15 30 65535 HT_ ?_; refine pu_ 16 31 131071 HT_ ?_; refine pu_ 17 32 262143 HT_ ?_
                        refine done_ (done_of HT_.out (by kernel_rfl)) ?_
                        try go_wp2
                        go_roundg k1
                        case measure => have := HK1.out; omega
                        case rel => exact ⟨(wrap64 (x10_1 + 1)), ra_, H', ⟨by have := HK1.out; omega⟩, ⟨by repeat (first | (with_reducible first | exact HB.out | apply below_alloc | apply pw_below_drewN | apply below_drew1 | refine below_set ?_ GE230.out) | exact HB.out)⟩⟩
                      · rw [if_neg c12] at H
                        have c12b0 : (Op.bytesLess (((rd_T62 l0 (ji9)).f0).toList) (((rd_T62 l0 x10_1).f0).toList)) = false := by simpa using c12
                        clear c12
                        obtain rfl := Option.some.inj H
                        have p229 : 0 ≤ (x10_1 : Int) := dt_
                        have q229 : x10_1 < (l0.length : Int) := dt_
                        obtain ⟨ad229, e229, hx229_0, hx229_1, hx229_2, hx229_3⟩ := at_T62 HR0.out x10_1 p229 q229
                        cases e229
                        replace hx229_0 := cm_ HB hx229_0
                        replace hx229_1 := cm_ HB hx229_1
                        replace hx229_2 := cm_ HB hx229_2
                        replace hx229_3 := cm_ HB hx229_3
                        replace p229 := eq_true p229
                        replace q229 := eq_true q229
                        try go_wp2_with (first | ((with_reducible refine gate_dst (N := 4) rfl ?_); refine box_event ?hg (N := 4) ?hd (cs := #[.string (⟨#[]⟩ : ByteArray), .int .i64 0, .int .i64 0, .string (⟨#[]⟩ : ByteArray)]) (t := 62) ?hr ?_; (case hd => rfl); (case hg => rfl); (case hr => first | (go_simp; done) | (go_simp; rfl)); intro gb230 hg w18 hbox hb; have n0_ := bs_ (be_ HB) hb; have n1_ := Aside0.mk (hbox); have n2_ := gs_ hg (be_ HB); have n3_ := gs_ hg (be_ HB); clear HB; have HB := n0_; have BK230 := n1_; have GW230 := n2_; have GE230 := n3_; clear n0_ n1_ n2_ n3_; clear hb hbox hg; have hcz19_0 : w18.cell? ⟨gb230, 0, none⟩ = some (.string (⟨#[]⟩ : ByteArray)) := (blk_cell BK230.out 0).trans rfl; have hcz19_1 : w18.cell? ⟨gb230, 1, none⟩ = some (.int .i64 0) := (blk_cell BK230.out 1).trans rfl; have hcz19_2 : w18.cell? ⟨gb230, 2, none⟩ = some (.int .i64 0) := (blk_cell BK230.out 2).trans rfl; have hcz19_3 : w18.cell? ⟨gb230, 3, none⟩ = some (.string (⟨#[]⟩ : ByteArray)) := (blk_cell BK230.out 3).trans rfl; have hfz19_0 := blk_frozen BK230.out 0; have hfz19_1 := blk_frozen BK230.out 1; have hfz19_2 := blk_frozen BK230.out 2; have hfz19_3 := blk_frozen BK230.out 3))
                        have n0_ : Aside0 (((((w18.setCell ⟨gb230, 0, none⟩ (.string ((rd_T62 l0 x10_1).f0))).setCell ⟨gb230, 1, none⟩ (.int .i64 ((rd_T62 l0 x10_1).f1.f0))).setCell ⟨gb230, 2, none⟩ (.int .i64 ((rd_T62 l0 x10_1).f1.f1))).setCell ⟨gb230, 3, none⟩ (.string ((rd_T62 l0 x10_1).f1.f2))).heap[gb230]? = some (.cells #[.string ((rd_T62 l0 x10_1).f0), .int .i64 ((rd_T62 l0 x10_1).f1.f0), .int .i64 ((rd_T62 l0 x10_1).f1.f1), .string ((rd_T62 l0 x10_1).f1.f2)] 62 (0, 0))) := ⟨by (with_reducible repeat (first | refine blk_drewN ?_ _ | refine blk_drew ?_ | refine blk_alloc ?_ _)); refine blk_put (cs := #[.string ((rd_T62 l0 x10_1).f0), .int .i64 ((rd_T62 l0 x10_1).f1.f0), .int .i64 ((rd_T62 l0 x10_1).f1.f1), .string (⟨#[]⟩ : ByteArray)]) ?_ 3 _ rfl; (with_reducible repeat (first | refine blk_drewN ?_ _ | refine blk_drew ?_ | refine blk_alloc ?_ _)); refine blk_put (cs := #[.string ((rd_T62 l0 x10_1).f0), .int .i64 ((rd_T62 l0 x10_1).f1.f0), .int .i64 0, .string (⟨#[]⟩ : ByteArray)]) ?_ 2 _ rfl; (with_reducible repeat (first | refine blk_drewN ?_ _ | refine blk_drew ?_ | refine blk_alloc ?_ _)); refine blk_put (cs := #[.string ((rd_T62 l0 x10_1).f0), .int .i64 0, .int .i64 0, .string (⟨#[]⟩ : ByteArray)]) ?_ 1 _ rfl; (with_reducible repeat (first | refine blk_drewN ?_ _ | refine blk_drew ?_ | refine blk_alloc ?_ _)); refine blk_put (cs := #[.string (⟨#[]⟩ : ByteArray), .int .i64 0, .int .i64 0, .string (⟨#[]⟩ : ByteArray)]) ?_ 0 _ rfl; (with_reducible repeat (first | refine blk_drewN ?_ _ | refine blk_drew ?_ | refine blk_alloc ?_ _)); exact BK230.out⟩
                        have n1_ : Aside0 (Below w.heap.size w ((((w18.setCell ⟨gb230, 0, none⟩ (.string ((rd_T62 l0 x10_1).f0))).setCell ⟨gb230, 1, none⟩ (.int .i64 ((rd_T62 l0 x10_1).f1.f0))).setCell ⟨gb230, 2, none⟩ (.int .i64 ((rd_T62 l0 x10_1).f1.f1))).setCell ⟨gb230, 3, none⟩ (.string ((rd_T62 l0 x10_1).f1.f2)))) := ⟨by repeat (first | (with_reducible first | exact HB.out | apply below_alloc | apply pw_below_drewN | apply below_drew1 | refine below_set ?_ GE230.out) | exact HB.out)⟩
                        (try clear BK230)
                        (try clear HB)
                        generalize ((((w18.setCell ⟨gb230, 0, none⟩ (.string ((rd_T62 l0 x10_1).f0))).setCell ⟨gb230, 1, none⟩ (.int .i64 ((rd_T62 l0 x10_1).f1.f0))).setCell ⟨gb230, 2, none⟩ (.int .i64 ((rd_T62 l0 x10_1).f1.f1))).setCell ⟨gb230, 3, none⟩ (.string ((rd_T62 l0 x10_1).f1.f2))) = w20 at n0_ n1_ ⊢
                        have BK230 := n0_
                        have HB := n1_
                        clear n0_ n1_
                        have n0_ := Aside0.mk (blk_drew BK230.out)
                        have n1_ := Aside0.mk (below_drew1 HB.out)
                        clear BK230
                        clear HB
                        have BK230 := n0_
                        have HB := n1_
                        clear n0_ n1_
                        have p232 : 0 ≤ ((ji9) : Int) := dt_
                        have q232 : (ji9) < (l0.length : Int) := dt_
                        obtain ⟨ad232, e232, hx232_0, hx232_1, hx232_2, hx232_3⟩ := at_T62 HR0.out (ji9) p232 q232
                        have hw232_3 := hx232_3
                        have hw232_2 := hx232_2
                        have hw232_1 := hx232_1
                        have hw232_0 := hx232_0
                        obtain rfl : ad229 = ad232 := (by injection e232)
                        replace hx232_0 := cm_ HB hx232_0
                        replace hx232_1 := cm_ HB hx232_1
                        replace hx232_2 := cm_ HB hx232_2
                        replace hx232_3 := cm_ HB hx232_3
                        replace p232 := eq_true p232
                        replace q232 := eq_true q232
                        refine start_ (n := 18) (S := fun w' => w'.cell? ⟨gb230, 0, none⟩ = some (.string ((rd_T62 l0 x10_1).f0)) ∧ w'.cell? ⟨gb230, 1, none⟩ = some (.int .i64 ((rd_T62 l0 x10_1).f1.f0)) ∧ w'.cell? ⟨gb230, 2, none⟩ = some (.int .i64 ((rd_T62 l0 x10_1).f1.f1)) ∧ w'.cell? ⟨gb230, 3, none⟩ = some (.string ((rd_T62 l0 x10_1).f1.f2)) ∧ w'.cell? (ad229.add (((ji9)).toNat * 4)) = some (.string ((rd_T62 l0 (ji9)).f0)) ∧ w'.cell? ⟨(ad229.add (((ji9)).toNat * 4)).block, (ad229.add (((ji9)).toNat * 4)).off + 1, none⟩ = some (.int .i64 ((rd_T62 l0 (ji9)).f1.f0)) ∧ w'.cell? ⟨(ad229.add (((ji9)).toNat * 4)).block, (ad229.add (((ji9)).toNat * 4)).off + 2, none⟩ = some (.int .i64 ((rd_T62 l0 (ji9)).f1.f1)) ∧ w'.cell? ⟨(ad229.add (((ji9)).toNat * 4)).block, (ad229.add (((ji9)).toNat * 4)).off + 3, none⟩ = some (.string ((rd_T62 l0 (ji9)).f1.f2))) (ds := []) (mk_ 18 0) (by kernel_rfl) rfl rfl ⟨(blk_cell BK230.out 0).trans rfl, (blk_cell BK230.out 1).trans rfl, (blk_cell BK230.out 2).trans rfl, (blk_cell BK230.out 3).trans rfl, (cl_ HB hw232_0), (cl_ HB hw232_1), (cl_ HB hw232_2), (cl_ HB hw232_3)⟩ (fun hHeld => ?_); refine with_tabW subst_Check.tab6 subst_Check.bits6 (fun HT_ HW_ => ?_)
                        generalize w20.drew = w21 at BK230 HB hx232_0 hx232_1 hx232_2 hx232_3 hHeld ⊢
                        refine tk_ 0 15 1 HT_ HW_ hHeld ?_
                        refine one_ (i := 1) (N := some 16) (mk_ 18 3) rfl rfl (one_of HT_.out (by kernel_rfl)) (by decide) (fun K hK => ?_)
                        refine goes_ Try.func51 (by kernel_rfl) rfl #[.agg #[.string ((rd_T62 l0 x10_1).f0), .int .i64 ((rd_T62 l0 x10_1).f1.f0), .int .i64 ((rd_T62 l0 x10_1).f1.f1), .string ((rd_T62 l0 x10_1).f1.f2)]] (by rfl) rfl rfl ga_ ?_
                        with_reducible refine (subst_right.calls k1 ((rd_T62 l0 x10_1).f0) ((rd_T62 l0 x10_1).f1.f0) ((rd_T62 l0 x10_1).f1.f1) ((rd_T62 l0 x10_1).f1.f2) true _ A6.out).mono ?_
                        rintro e w22 ⟨rfl, hb⟩
                        refine ⟨_, rfl, ?_⟩
                        have n0_ := bb_ (bu_ BK230) hb
                        have n1_ := bs_ (be_ HB) hb
                        clear BK230
                        clear HB
                        have BK230 := n0_
                        have HB := n1_
                        clear n0_ n1_
                        (try clear hb)
                        (try clear hb2)
                        (try clear hk)
                        (try clear hi)
                        refine hK.out _ _ ⟨(blk_cell BK230.out 0).trans rfl, (blk_cell BK230.out 1).trans rfl, (blk_cell BK230.out 2).trans rfl, (blk_cell BK230.out 3).trans rfl, (cl_ HB hw232_0), (cl_ HB hw232_1), (cl_ HB hw232_2), (cl_ HB hw232_3)⟩ (fun hHeld => ?_)
                        clear hK K
                        refine nm_ 16 ?_; refine pu_ 2 17 7 HT_ ?_; refine pu_ 3 18 15 HT_ ?_; refine pu_ 4 19 31 HT_ ?_; refine pu_ 5 20 63 HT_ ?_; refine pu_ 6 21 127 HT_ ?_; refine pu_ 7 22 255 HT_ ?_; refine pu_ 8 23 511 HT_ ?_; refine pu_ 9 24 1023 HT_ ?_; refine pu_ 10 25 2047 HT_ ?_; refine pu_ 11 26 4095 HT_ ?_; refine pu_ 13 28 12287 HT_ ?_; refine tk_ 12 27 16383 HT_ HW_ hHeld ?_; refine tk_ 14 29 32767 HT_ HW_ hHeld ?_; refine pu_ 15 30 65535 HT_ ?_; refine pu_ 16 31 131071 HT_ ?_; refine pu_ 17 32 262143 HT_ ?_
                        refine done_ (done_of HT_.out (by kernel_rfl)) ?_
                        try go_wp2
                        go_ret
                        exact ⟨by first | rfl | (simp [errW_none, errW_some] <;> rfl) | (simp only [← hji9]; first | rfl | (simp [errW_none, errW_some] <;> rfl)) | (simp [*, errW_none, errW_some] <;> rfl), by repeat (first | (with_reducible first | exact HB.out | apply below_alloc | apply pw_below_drewN | apply below_drew1 | refine below_set ?_ GE230.out) | exact HB.out)⟩
                    · rw [if_neg c11] at H
                      exact absurd H (by simp)
                  · rw [if_neg c10] at H
                    exact absurd H (by simp)
                · rw [if_neg c8] at H
                  have c8b0 : decide (0 < x10_1) = false := decide_eq_false c8
                  clear c8
                  have H' := Aside0.mk H
                  clear H
                  have p229 : 0 ≤ (x10_1 : Int) := dt_
                  have q229 : x10_1 < (l0.length : Int) := dt_
                  obtain ⟨ad229, e229, hx229_0, hx229_1, hx229_2, hx229_3⟩ := at_T62 HR0.out x10_1 p229 q229
                  cases e229
                  replace hx229_0 := cm_ HB hx229_0
                  replace hx229_1 := cm_ HB hx229_1
                  replace hx229_2 := cm_ HB hx229_2
                  replace hx229_3 := cm_ HB hx229_3
                  replace p229 := eq_true p229
                  replace q229 := eq_true q229
                  try go_wp2_with (first | ((with_reducible refine gate_dst (N := 4) rfl ?_); refine box_event ?hg (N := 4) ?hd (cs := #[.string (⟨#[]⟩ : ByteArray), .int .i64 0, .int .i64 0, .string (⟨#[]⟩ : ByteArray)]) (t := 62) ?hr ?_; (case hd => rfl); (case hg => rfl); (case hr => first | (go_simp; done) | (go_simp; rfl)); intro gb230 hg w23 hbox hb; have n0_ := bs_ (be_ HB) hb; have n1_ := Aside0.mk (hbox); have n2_ := gs_ hg (be_ HB); have n3_ := gs_ hg (be_ HB); clear HB; have HB := n0_; have BK230 := n1_; have GW230 := n2_; have GE230 := n3_; clear n0_ n1_ n2_ n3_; clear hb hbox hg; have hcz24_0 : w23.cell? ⟨gb230, 0, none⟩ = some (.string (⟨#[]⟩ : ByteArray)) := (blk_cell BK230.out 0).trans rfl; have hcz24_1 : w23.cell? ⟨gb230, 1, none⟩ = some (.int .i64 0) := (blk_cell BK230.out 1).trans rfl; have hcz24_2 : w23.cell? ⟨gb230, 2, none⟩ = some (.int .i64 0) := (blk_cell BK230.out 2).trans rfl; have hcz24_3 : w23.cell? ⟨gb230, 3, none⟩ = some (.string (⟨#[]⟩ : ByteArray)) := (blk_cell BK230.out 3).trans rfl; have hfz24_0 := blk_frozen BK230.out 0; have hfz24_1 := blk_frozen BK230.out 1; have hfz24_2 := blk_frozen BK230.out 2; have hfz24_3 := blk_frozen BK230.out 3))
                  have n0_ : Aside0 (((((w23.setCell ⟨gb230, 0, none⟩ (.string ((rd_T62 l0 x10_1).f0))).setCell ⟨gb230, 1, none⟩ (.int .i64 ((rd_T62 l0 x10_1).f1.f0))).setCell ⟨gb230, 2, none⟩ (.int .i64 ((rd_T62 l0 x10_1).f1.f1))).setCell ⟨gb230, 3, none⟩ (.string ((rd_T62 l0 x10_1).f1.f2))).heap[gb230]? = some (.cells #[.string ((rd_T62 l0 x10_1).f0), .int .i64 ((rd_T62 l0 x10_1).f1.f0), .int .i64 ((rd_T62 l0 x10_1).f1.f1), .string ((rd_T62 l0 x10_1).f1.f2)] 62 (0, 0))) := ⟨by (with_reducible repeat (first | refine blk_drewN ?_ _ | refine blk_drew ?_ | refine blk_alloc ?_ _)); refine blk_put (cs := #[.string ((rd_T62 l0 x10_1).f0), .int .i64 ((rd_T62 l0 x10_1).f1.f0), .int .i64 ((rd_T62 l0 x10_1).f1.f1), .string (⟨#[]⟩ : ByteArray)]) ?_ 3 _ rfl; (with_reducible repeat (first | refine blk_drewN ?_ _ | refine blk_drew ?_ | refine blk_alloc ?_ _)); refine blk_put (cs := #[.string ((rd_T62 l0 x10_1).f0), .int .i64 ((rd_T62 l0 x10_1).f1.f0), .int .i64 0, .string (⟨#[]⟩ : ByteArray)]) ?_ 2 _ rfl; (with_reducible repeat (first | refine blk_drewN ?_ _ | refine blk_drew ?_ | refine blk_alloc ?_ _)); refine blk_put (cs := #[.string ((rd_T62 l0 x10_1).f0), .int .i64 0, .int .i64 0, .string (⟨#[]⟩ : ByteArray)]) ?_ 1 _ rfl; (with_reducible repeat (first | refine blk_drewN ?_ _ | refine blk_drew ?_ | refine blk_alloc ?_ _)); refine blk_put (cs := #[.string (⟨#[]⟩ : ByteArray), .int .i64 0, .int .i64 0, .string (⟨#[]⟩ : ByteArray)]) ?_ 0 _ rfl; (with_reducible repeat (first | refine blk_drewN ?_ _ | refine blk_drew ?_ | refine blk_alloc ?_ _)); exact BK230.out⟩
                  have n1_ : Aside0 (Below w.heap.size w ((((w23.setCell ⟨gb230, 0, none⟩ (.string ((rd_T62 l0 x10_1).f0))).setCell ⟨gb230, 1, none⟩ (.int .i64 ((rd_T62 l0 x10_1).f1.f0))).setCell ⟨gb230, 2, none⟩ (.int .i64 ((rd_T62 l0 x10_1).f1.f1))).setCell ⟨gb230, 3, none⟩ (.string ((rd_T62 l0 x10_1).f1.f2)))) := ⟨by repeat (first | (with_reducible first | exact HB.out | apply below_alloc | apply pw_below_drewN | apply below_drew1 | refine below_set ?_ GE230.out) | exact HB.out)⟩
                  (try clear BK230)
                  (try clear HB)
                  generalize ((((w23.setCell ⟨gb230, 0, none⟩ (.string ((rd_T62 l0 x10_1).f0))).setCell ⟨gb230, 1, none⟩ (.int .i64 ((rd_T62 l0 x10_1).f1.f0))).setCell ⟨gb230, 2, none⟩ (.int .i64 ((rd_T62 l0 x10_1).f1.f1))).setCell ⟨gb230, 3, none⟩ (.string ((rd_T62 l0 x10_1).f1.f2))) = w25 at n0_ n1_ ⊢
                  have BK230 := n0_
                  have HB := n1_
                  clear n0_ n1_
                  have n0_ := Aside0.mk (blk_drew BK230.out)
                  have n1_ := Aside0.mk (below_drew1 HB.out)
                  clear BK230
                  clear HB
                  have BK230 := n0_
                  have HB := n1_
                  clear n0_ n1_
                  refine start_ (n := 18) (S := fun w' => w'.cell? ⟨gb230, 0, none⟩ = some (.string ((rd_T62 l0 x10_1).f0)) ∧ w'.cell? ⟨gb230, 1, none⟩ = some (.int .i64 ((rd_T62 l0 x10_1).f1.f0)) ∧ w'.cell? ⟨gb230, 2, none⟩ = some (.int .i64 ((rd_T62 l0 x10_1).f1.f1)) ∧ w'.cell? ⟨gb230, 3, none⟩ = some (.string ((rd_T62 l0 x10_1).f1.f2))) (ds := []) (mk_ 18 0) (by kernel_rfl) rfl rfl ⟨(blk_cell BK230.out 0).trans rfl, (blk_cell BK230.out 1).trans rfl, (blk_cell BK230.out 2).trans rfl, (blk_cell BK230.out 3).trans rfl⟩ (fun hHeld => ?_); refine with_tabW subst_Check.tab6 subst_Check.bits6 (fun HT_ HW_ => ?_)
                  generalize w25.drew = w26 at BK230 HB hHeld ⊢
                  refine tk_ 0 15 1 HT_ HW_ hHeld ?_
                  refine one_ (i := 1) (N := some 16) (mk_ 18 3) rfl rfl (one_of HT_.out (by kernel_rfl)) (by decide) (fun K hK => ?_)
                  refine goes_ Try.func51 (by kernel_rfl) rfl #[.agg #[.string ((rd_T62 l0 x10_1).f0), .int .i64 ((rd_T62 l0 x10_1).f1.f0), .int .i64 ((rd_T62 l0 x10_1).f1.f1), .string ((rd_T62 l0 x10_1).f1.f2)]] (by rfl) rfl rfl ga_ ?_
                  with_reducible refine (subst_right.calls k1 ((rd_T62 l0 x10_1).f0) ((rd_T62 l0 x10_1).f1.f0) ((rd_T62 l0 x10_1).f1.f1) ((rd_T62 l0 x10_1).f1.f2) true _ A6.out).mono ?_
                  rintro e w27 ⟨rfl, hb⟩
                  refine ⟨_, rfl, ?_⟩
                  have n0_ := bb_ (bu_ BK230) hb
                  have n1_ := bs_ (be_ HB) hb
                  clear BK230
                  clear HB
                  have BK230 := n0_
                  have HB := n1_
                  clear n0_ n1_
                  (try clear hb)
                  (try clear hb2)
                  (try clear hk)
                  (try clear hi)
                  refine hK.out _ _ ⟨(blk_cell BK230.out 0).trans rfl, (blk_cell BK230.out 1).trans rfl, (blk_cell BK230.out 2).trans rfl, (blk_cell BK230.out 3).trans rfl⟩ (fun hHeld => ?_)
                  clear hK K
                  refine nm_ 16 ?_; refine pu_ 2 17 7 HT_ ?_; refine pu_ 3 18 15 HT_ ?_; refine pu_ 4 19 31 HT_ ?_; refine pu_ 5 20 63 HT_ ?_; refine pu_ 6 21 127 HT_ ?_; refine pn_ 7 22 255 HT_ ?_; refine pn_ 8 23 511 HT_ ?_; refine pn_ 9 24 1023 HT_ ?_; refine pn_ 10 25 2047 HT_ ?_; refine pn_ 11 26 4095 HT_ ?_; refine pn_ 12 27 8191 HT_ ?_; refine pn_ 13 28 16383 HT_ ?_; refine pn_ 14 29 32767 HT_ ?_; refine pn_ 15 30 65535 HT_ ?_; refine pu_ 16 31 131071 HT_ ?_; refine pu_ 17 32 262143 HT_ ?_
                  refine done_ (done_of HT_.out (by kernel_rfl)) ?_
                  try go_wp2
                  go_roundg k1
                  case measure => have := HK1.out; omega
                  case rel => exact ⟨(wrap64 (x10_1 + 1)), ra_, H', ⟨by have := HK1.out; omega⟩, ⟨by repeat (first | (with_reducible first | exact HB.out | apply below_alloc | apply pw_below_drewN | apply below_drew1 | refine below_set ?_ GE230.out) | exact HB.out)⟩⟩
              · replace c7 := Bool.eq_false_iff.mpr c7
                subst c7
                have H1 : (some 1) = some r := by rw [if_neg (show ¬ (false = true) by decide)] at H; exact H
                clear H
                have H := H1
                clear H1
                obtain rfl := Option.some.inj H
                have p229 : 0 ≤ (x10_1 : Int) := dt_
                have q229 : x10_1 < (l0.length : Int) := dt_
                obtain ⟨ad229, e229, hx229_0, hx229_1, hx229_2, hx229_3⟩ := at_T62 HR0.out x10_1 p229 q229
                cases e229
                replace hx229_0 := cm_ HB hx229_0
                replace hx229_1 := cm_ HB hx229_1
                replace hx229_2 := cm_ HB hx229_2
                replace hx229_3 := cm_ HB hx229_3
                replace p229 := eq_true p229
                replace q229 := eq_true q229
                try go_wp2_with (first | ((with_reducible refine gate_dst (N := 4) rfl ?_); refine box_event ?hg (N := 4) ?hd (cs := #[.string (⟨#[]⟩ : ByteArray), .int .i64 0, .int .i64 0, .string (⟨#[]⟩ : ByteArray)]) (t := 62) ?hr ?_; (case hd => rfl); (case hg => rfl); (case hr => first | (go_simp; done) | (go_simp; rfl)); intro gb230 hg w28 hbox hb; have n0_ := bs_ (be_ HB) hb; have n1_ := Aside0.mk (hbox); have n2_ := gs_ hg (be_ HB); have n3_ := gs_ hg (be_ HB); clear HB; have HB := n0_; have BK230 := n1_; have GW230 := n2_; have GE230 := n3_; clear n0_ n1_ n2_ n3_; clear hb hbox hg; have hcz29_0 : w28.cell? ⟨gb230, 0, none⟩ = some (.string (⟨#[]⟩ : ByteArray)) := (blk_cell BK230.out 0).trans rfl; have hcz29_1 : w28.cell? ⟨gb230, 1, none⟩ = some (.int .i64 0) := (blk_cell BK230.out 1).trans rfl; have hcz29_2 : w28.cell? ⟨gb230, 2, none⟩ = some (.int .i64 0) := (blk_cell BK230.out 2).trans rfl; have hcz29_3 : w28.cell? ⟨gb230, 3, none⟩ = some (.string (⟨#[]⟩ : ByteArray)) := (blk_cell BK230.out 3).trans rfl; have hfz29_0 := blk_frozen BK230.out 0; have hfz29_1 := blk_frozen BK230.out 1; have hfz29_2 := blk_frozen BK230.out 2; have hfz29_3 := blk_frozen BK230.out 3))
                have n0_ : Aside0 (((((w28.setCell ⟨gb230, 0, none⟩ (.string ((rd_T62 l0 x10_1).f0))).setCell ⟨gb230, 1, none⟩ (.int .i64 ((rd_T62 l0 x10_1).f1.f0))).setCell ⟨gb230, 2, none⟩ (.int .i64 ((rd_T62 l0 x10_1).f1.f1))).setCell ⟨gb230, 3, none⟩ (.string ((rd_T62 l0 x10_1).f1.f2))).heap[gb230]? = some (.cells #[.string ((rd_T62 l0 x10_1).f0), .int .i64 ((rd_T62 l0 x10_1).f1.f0), .int .i64 ((rd_T62 l0 x10_1).f1.f1), .string ((rd_T62 l0 x10_1).f1.f2)] 62 (0, 0))) := ⟨by (with_reducible repeat (first | refine blk_drewN ?_ _ | refine blk_drew ?_ | refine blk_alloc ?_ _)); refine blk_put (cs := #[.string ((rd_T62 l0 x10_1).f0), .int .i64 ((rd_T62 l0 x10_1).f1.f0), .int .i64 ((rd_T62 l0 x10_1).f1.f1), .string (⟨#[]⟩ : ByteArray)]) ?_ 3 _ rfl; (with_reducible repeat (first | refine blk_drewN ?_ _ | refine blk_drew ?_ | refine blk_alloc ?_ _)); refine blk_put (cs := #[.string ((rd_T62 l0 x10_1).f0), .int .i64 ((rd_T62 l0 x10_1).f1.f0), .int .i64 0, .string (⟨#[]⟩ : ByteArray)]) ?_ 2 _ rfl; (with_reducible repeat (first | refine blk_drewN ?_ _ | refine blk_drew ?_ | refine blk_alloc ?_ _)); refine blk_put (cs := #[.string ((rd_T62 l0 x10_1).f0), .int .i64 0, .int .i64 0, .string (⟨#[]⟩ : ByteArray)]) ?_ 1 _ rfl; (with_reducible repeat (first | refine blk_drewN ?_ _ | refine blk_drew ?_ | refine blk_alloc ?_ _)); refine blk_put (cs := #[.string (⟨#[]⟩ : ByteArray), .int .i64 0, .int .i64 0, .string (⟨#[]⟩ : ByteArray)]) ?_ 0 _ rfl; (with_reducible repeat (first | refine blk_drewN ?_ _ | refine blk_drew ?_ | refine blk_alloc ?_ _)); exact BK230.out⟩
                have n1_ : Aside0 (Below w.heap.size w ((((w28.setCell ⟨gb230, 0, none⟩ (.string ((rd_T62 l0 x10_1).f0))).setCell ⟨gb230, 1, none⟩ (.int .i64 ((rd_T62 l0 x10_1).f1.f0))).setCell ⟨gb230, 2, none⟩ (.int .i64 ((rd_T62 l0 x10_1).f1.f1))).setCell ⟨gb230, 3, none⟩ (.string ((rd_T62 l0 x10_1).f1.f2)))) := ⟨by repeat (first | (with_reducible first | exact HB.out | apply below_alloc | apply pw_below_drewN | apply below_drew1 | refine below_set ?_ GE230.out) | exact HB.out)⟩
                (try clear BK230)
                (try clear HB)
                generalize ((((w28.setCell ⟨gb230, 0, none⟩ (.string ((rd_T62 l0 x10_1).f0))).setCell ⟨gb230, 1, none⟩ (.int .i64 ((rd_T62 l0 x10_1).f1.f0))).setCell ⟨gb230, 2, none⟩ (.int .i64 ((rd_T62 l0 x10_1).f1.f1))).setCell ⟨gb230, 3, none⟩ (.string ((rd_T62 l0 x10_1).f1.f2))) = w30 at n0_ n1_ ⊢
                have BK230 := n0_
                have HB := n1_
                clear n0_ n1_
                have n0_ := Aside0.mk (blk_drew BK230.out)
                have n1_ := Aside0.mk (below_drew1 HB.out)
                clear BK230
                clear HB
                have BK230 := n0_
                have HB := n1_
                clear n0_ n1_
                refine start_ (n := 18) (S := fun w' => w'.cell? ⟨gb230, 0, none⟩ = some (.string ((rd_T62 l0 x10_1).f0)) ∧ w'.cell? ⟨gb230, 1, none⟩ = some (.int .i64 ((rd_T62 l0 x10_1).f1.f0)) ∧ w'.cell? ⟨gb230, 2, none⟩ = some (.int .i64 ((rd_T62 l0 x10_1).f1.f1)) ∧ w'.cell? ⟨gb230, 3, none⟩ = some (.string ((rd_T62 l0 x10_1).f1.f2))) (ds := []) (mk_ 18 0) (by kernel_rfl) rfl rfl ⟨(blk_cell BK230.out 0).trans rfl, (blk_cell BK230.out 1).trans rfl, (blk_cell BK230.out 2).trans rfl, (blk_cell BK230.out 3).trans rfl⟩ (fun hHeld => ?_); refine with_tabW subst_Check.tab6 subst_Check.bits6 (fun HT_ HW_ => ?_)
                generalize w30.drew = w31 at BK230 HB hHeld ⊢
                refine tk_ 0 15 1 HT_ HW_ hHeld ?_
                refine one_ (i := 1) (N := some 16) (mk_ 18 3) rfl rfl (one_of HT_.out (by kernel_rfl)) (by decide) (fun K hK => ?_)
                refine goes_ Try.func51 (by kernel_rfl) rfl #[.agg #[.string ((rd_T62 l0 x10_1).f0), .int .i64 ((rd_T62 l0 x10_1).f1.f0), .int .i64 ((rd_T62 l0 x10_1).f1.f1), .string ((rd_T62 l0 x10_1).f1.f2)]] (by rfl) rfl rfl ga_ ?_
                with_reducible refine (subst_right.calls k1 ((rd_T62 l0 x10_1).f0) ((rd_T62 l0 x10_1).f1.f0) ((rd_T62 l0 x10_1).f1.f1) ((rd_T62 l0 x10_1).f1.f2) false _ A6.out).mono ?_
                rintro e w32 ⟨rfl, hb⟩
                refine ⟨_, rfl, ?_⟩
                have n0_ := bb_ (bu_ BK230) hb
                have n1_ := bs_ (be_ HB) hb
                clear BK230
                clear HB
                have BK230 := n0_
                have HB := n1_
                clear n0_ n1_
                (try clear hb)
                (try clear hb2)
                (try clear hk)
                (try clear hi)
                refine hK.out _ _ ⟨(blk_cell BK230.out 0).trans rfl, (blk_cell BK230.out 1).trans rfl, (blk_cell BK230.out 2).trans rfl, (blk_cell BK230.out 3).trans rfl⟩ (fun hHeld => ?_)
                clear hK K
                refine nm_ 16 ?_; refine pu_ 2 17 7 HT_ ?_; refine pu_ 3 18 15 HT_ ?_; refine pn_ 4 19 31 HT_ ?_; refine pn_ 5 20 63 HT_ ?_; refine pn_ 6 21 127 HT_ ?_; refine pn_ 7 22 255 HT_ ?_; refine pn_ 8 23 511 HT_ ?_; refine pn_ 9 24 1023 HT_ ?_; refine pn_ 10 25 2047 HT_ ?_; refine pn_ 11 26 4095 HT_ ?_; refine pn_ 12 27 8191 HT_ ?_; refine pn_ 13 28 16383 HT_ ?_; refine pn_ 14 29 32767 HT_ ?_; refine pn_ 15 30 65535 HT_ ?_; refine pn_ 16 31 131071 HT_ ?_; refine pu_ 17 32 262143 HT_ ?_
                refine done_ (done_of HT_.out (by kernel_rfl)) ?_
                try go_wp2
                go_ret
                exact ⟨by first | rfl | (simp [errW_none, errW_some] <;> rfl) | (simp [*, errW_none, errW_some] <;> rfl), by repeat (first | (with_reducible first | exact HB.out | apply below_alloc | apply pw_below_drewN | apply below_drew1 | refine below_set ?_ GE230.out) | exact HB.out)⟩
            · rw [if_neg c5] at H
              exact absurd H (by simp)
          · rw [if_neg c4] at H
            exact absurd H (by simp)
        · rw [if_neg c3] at H
          have c3b0 : decide (x10_1 < (l0.length : Int)) = false := decide_eq_false c3
          clear c3
          obtain rfl := Option.some.inj H
          go_wp2
          go_ret
          exact ⟨by first | rfl | (simp [errW_none, errW_some] <;> rfl) | (simp [*, errW_none, errW_some] <;> rfl), by repeat (first | (with_reducible first | exact HB.out | apply below_alloc | apply pw_below_drewN | apply below_drew1) | exact HB.out)⟩
end Go.Proofs.Ytconpnagoijacaa.P
end
section
namespace Go.Proofs.Ytconpnagoijacaa.P
open Go.RowKit Go.Proofs.YtconpnagoijacaaW.PrintWords Go.Proofs.YtconpnagoijacaaW.PrintLast Go.Proofs.YtconpnagoijacaaW.PrintMore
attribute [local go_sem] max2_int min2_int max_two min_two max_three min_three max_four min_four
set_option linter.unusedVariables false
set_option linter.unusedSimpArgs false
def subst_Get.l0 : Nat → ByteArray → List (S62) → Int → Int → Option (Int × Int × ByteArray × Bool)
  | 0, _, _, _, _ => none
  | k + 1, x1, x8, x9, x10 => if x10 < x9 then (if 0 ≤ x10 then (if x10 < (x8.length : Int) then (if ((rd_T62 x8 x10).f0).toList = x1.toList then (some ((rd_T62 x8 x10).f1.f0, (rd_T62 x8 x10).f1.f1, (rd_T62 x8 x10).f1.f2, true)) else (subst_Get.l0 k x1 x8 x9 (wrap64 (x10 + 1)))) else (none)) else (none)) else (some (0, 0, (⟨#[]⟩ : ByteArray), false))
def subst_Get.f (k : Nat) (l0 : List (S62)) (a1 : ByteArray) : Option (Int × Int × ByteArray × Bool) := subst_Get.l0 k a1 l0 (l0.length : Int) 0
theorem subst_Get.mono_l : ∀ k, (∀ y0 y1 y2 y3, LeO (subst_Get.l0 k y0 y1 y2 y3) (subst_Get.l0 (k + 1) y0 y1 y2 y3))
  | 0 => fun _ _ _ _ r h => by simp [subst_Get.l0] at h
  | k + 1 => by
    have ih0 := subst_Get.mono_l k
    · intro y0 y1 y2 y3
      unfold subst_Get.l0
      repeat' first
      | (with_reducible exact ih0 _ _ _ _)
      | (with_reducible exact LeO.refl _)
      | (with_reducible exact LeO.none _)
      | (with_reducible refine LeO.ite ?_ ?_)
      | (with_reducible refine LeO.bind ?_ (fun _ => ?_))
      | exact ih0 _ _ _ _
      | exact LeO.none _
      | refine LeO.ite ?_ ?_
      | refine LeO.bind ?_ (fun _ => ?_)
theorem subst_Get.mono : ∀ a0 a1 k, LeO (subst_Get.f k a0 a1) (subst_Get.f (k + 1) a0 a1) := by
  intro a0 a1 k
  have ih0 := subst_Get.mono_l k
  unfold subst_Get.f
  repeat' first
      | (with_reducible exact ih0 _ _ _ _)
      | (with_reducible exact LeO.refl _)
      | (with_reducible exact LeO.none _)
      | (with_reducible refine LeO.ite ?_ ?_)
      | (with_reducible refine LeO.bind ?_ (fun _ => ?_))
      | exact ih0 _ _ _ _
      | exact LeO.none _
      | refine LeO.ite ?_ ?_
      | refine LeO.bind ?_ (fun _ => ?_)
set_option maxHeartbeats 8000000 in
set_option maxRecDepth 100000 in
theorem subst_Get.calls (k : Nat) (A0 : Option Addr) (c0 : Nat) (l0 : List (S62)) (a1 : ByteArray) (r1 : Int) (r2 : Int) (r3 : ByteArray) (r4 : Bool) (w : World) (hr0 : Kd.C k62 w A0 l0.length l0) (hc0 : l0.length ≤ c0) (h : subst_Get.f k l0 a1 = some (r1, r2, r3, r4)) :
    Calls Try.prog 52 #[.slice A0 l0.length c0, .string a1] w fun e w' => e = .returned (.tuple #[.agg #[.int .i64 r1, .int .i64 r2, .string r3], .bool r4]) ∧ Below w.heap.size w w' := by
  have hu40 := Try.underlying40
  have hu62 := Try.underlying62
  have HR0 := Aside0.mk hr0
  have HC0 := Aside0.mk hc0
  clear hr0 hc0
  have HB := Aside0.mk (Below.refl w.heap.size w)
  have H : (subst_Get.l0 k a1 l0 (l0.length : Int) 0) = some (r1, r2, r3, r4) := h
  clear h
  have H' := Aside0.mk H
  clear H
  go_enter Try.func52, Try.ntmps52
  go_wp2_with (first | ((with_reducible refine gate_dst (N := 4) rfl ?_); refine box_event ?hg (N := 4) ?hd (cs := #[.int .i64 0, .int .i64 0, .string (⟨#[]⟩ : ByteArray)]) (t := 40) ?hr ?_; (case hd => rfl); (case hg => rfl); (case hr => first | (go_simp; done) | (go_simp; rfl)); intro gb233 hg w3 hbox hb; have n0_ := bs_ (be_ HB) hb; have n1_ := Aside0.mk (hbox); have n2_ := gs_ hg (be_ HB); have n3_ := gs_ hg (be_ HB); clear HB; have HB := n0_; have BK233 := n1_; have GW233 := n2_; have GE233 := n3_; clear n0_ n1_ n2_ n3_; clear hb hbox hg))
  go_loopg [10] k (fun kq v10 w' => ∃ (x10_1 : Int) (x234000_1 : Int) (x234001_1 : Int) (x234002_1 : ByteArray), v10 = .int .i64 x10_1 ∧ Aside0 (subst_Get.l0 kq a1 l0 (l0.length : Int) x10_1 = some (r1, r2, r3, r4)) ∧ Aside0 (kq ≤ k) ∧ Aside0 (w'.heap[gb233]? = some (.cells #[.int .i64 x234000_1, .int .i64 x234001_1, .string x234002_1] 40 (0, 0))) ∧ Aside0 (Below w.heap.size w w'))
  case atStart => exact ⟨(0), (0), (0), ((⟨#[]⟩ : ByteArray)), ra_, H', ⟨Nat.le_refl _⟩, ⟨by (with_reducible repeat (first | refine blk_drewN ?_ _ | refine blk_drew ?_ | refine blk_alloc ?_ _)); exact BK233.out⟩, ⟨by repeat (first | (with_reducible first | exact HB.out | apply below_alloc | apply pw_below_drewN | apply below_drew1 | refine below_set ?_ GE233.out) | exact HB.out)⟩⟩
  case round =>
    clear H'
    try clear p2
    obtain ⟨x10_1, x234000_1, x234001_1, x234002_1, rfl, HA, HK1, BK233, HB⟩ := hrel
    cases gk with
    | zero => exact absurd HA.out (by simp [subst_Get.l0])
    | succ k1 =>
      have H := HA.out
      clear HA
      simp only [subst_Get.l0] at H
      by_cases c4 : x10_1 < (l0.length : Int)
      · rw [if_pos c4] at H
        have c4b0 : decide (x10_1 < (l0.length : Int)) = true := decide_eq_true c4
        clear c4
        by_cases c5 : 0 ≤ x10_1
        · rw [if_pos c5] at H
          have c5b0 : decide (0 ≤ x10_1) = true := decide_eq_true c5
          clear c5
          by_cases c6 : x10_1 < (l0.length : Int)
          · rw [if_pos c6] at H
            have c6b0 : decide (x10_1 < (l0.length : Int)) = true := decide_eq_true c6
            clear c6
            by_cases c7 : ((rd_T62 l0 x10_1).f0).toList = a1.toList
            · rw [if_pos c7] at H
              obtain ⟨c7b0, c7b1⟩ := eqB_ c7
              clear c7
              simp only [Option.some.injEq, Prod.mk.injEq] at H
              obtain ⟨rfl, rfl, rfl, rfl⟩ := H
              have p234 : 0 ≤ (x10_1 : Int) := dt_
              have q234 : x10_1 < (l0.length : Int) := dt_
              obtain ⟨ad234, e234, hx234_0, hx234_1, hx234_2, hx234_3⟩ := at_T62 HR0.out x10_1 p234 q234
              cases e234
              replace hx234_0 := cm_ HB hx234_0
              replace hx234_1 := cm_ HB hx234_1
              replace hx234_2 := cm_ HB hx234_2
              replace hx234_3 := cm_ HB hx234_3
              replace p234 := eq_true p234
              replace q234 := eq_true q234
              go_wp2_with (first | ((with_reducible refine gate_dst (N := 7) rfl ?_); refine box_event ?hg (N := 7) ?hd (cs := #[.string (⟨#[]⟩ : ByteArray), .int .i64 0, .int .i64 0, .string (⟨#[]⟩ : ByteArray)]) (t := 62) ?hr ?_; (case hd => rfl); (case hg => rfl); (case hr => first | (go_simp; done) | (go_simp; rfl)); intro gb235 hg w8 hbox hb; have n0_ := bb_ (bu_ BK233) hb; have n1_ := bs_ (be_ HB) hb; have n2_ := Aside0.mk (hbox); have n3_ := gs_ hg (be_ HB); have n4_ := gs_ hg (be_ HB); have n5_ := nl_ hg (bu_ BK233); have n6_ := ng_ hg (bu_ BK233); clear BK233; clear HB; have BK233 := n0_; have HB := n1_; have BK235 := n2_; have GW235 := n3_; have GE235 := n4_; have NB233_235 := n5_; have NB235_233 := n6_; clear n0_ n1_ n2_ n3_ n4_ n5_ n6_; clear hb hbox hg; have hnb9 := NB235_233.out; have hnc9 := NB233_235.out; have hcz10_0 : w8.cell? ⟨gb235, 0, none⟩ = some (.string (⟨#[]⟩ : ByteArray)) := (blk_cell BK235.out 0).trans rfl; have hcz10_1 : w8.cell? ⟨gb235, 1, none⟩ = some (.int .i64 0) := (blk_cell BK235.out 1).trans rfl; have hcz10_2 : w8.cell? ⟨gb235, 2, none⟩ = some (.int .i64 0) := (blk_cell BK235.out 2).trans rfl; have hcz10_3 : w8.cell? ⟨gb235, 3, none⟩ = some (.string (⟨#[]⟩ : ByteArray)) := (blk_cell BK235.out 3).trans rfl; have hfz10_0 := blk_frozen BK235.out 0; have hfz10_1 := blk_frozen BK235.out 1; have hfz10_2 := blk_frozen BK235.out 2; have hfz10_3 := blk_frozen BK235.out 3; have hcz11_0 : w8.cell? ⟨gb233, 0, none⟩ = some (.int .i64 x234000_1) := (blk_cell BK233.out 0).trans rfl; have hcz11_1 : w8.cell? ⟨gb233, 1, none⟩ = some (.int .i64 x234001_1) := (blk_cell BK233.out 1).trans rfl; have hcz11_2 : w8.cell? ⟨gb233, 2, none⟩ = some (.string x234002_1) := (blk_cell BK233.out 2).trans rfl; have hfz11_0 := blk_frozen BK233.out 0; have hfz11_1 := blk_frozen BK233.out 1; have hfz11_2 := blk_frozen BK233.out 2))
              refine bodyPost_ret (results_ct rfl _ _ gb233 40 #[.int .i64 ((rd_T62 l0 x10_1).f1.f0), .int .i64 ((rd_T62 l0 x10_1).f1.f1), .string ((rd_T62 l0 x10_1).f1.f2)] (0, 0) _ rfl (bp_ BK233) Try.underlying40 rfl (by kernel_rfl)) rfl ?_
              exact ⟨by first | rfl | (simp [errW_none, errW_some] <;> rfl) | (simp [*, errW_none, errW_some] <;> rfl), by repeat (first | (with_reducible first | exact HB.out | apply below_alloc | apply pw_below_drewN | apply below_drew1 | refine below_set ?_ GE233.out | refine below_set ?_ GE235.out) | exact HB.out)⟩
            · rw [if_neg c7] at H
              obtain ⟨c7b0, c7b1⟩ := neB_ c7
              have H' := Aside0.mk H
              clear H
              have p234 : 0 ≤ (x10_1 : Int) := dt_
              have q234 : x10_1 < (l0.length : Int) := dt_
              obtain ⟨ad234, e234, hx234_0, hx234_1, hx234_2, hx234_3⟩ := at_T62 HR0.out x10_1 p234 q234
              cases e234
              replace hx234_0 := cm_ HB hx234_0
              replace hx234_1 := cm_ HB hx234_1
              replace hx234_2 := cm_ HB hx234_2
              replace hx234_3 := cm_ HB hx234_3
              replace p234 := eq_true p234
              replace q234 := eq_true q234
              go_wp2_with (first | ((with_reducible refine gate_dst (N := 7) rfl ?_); refine box_event ?hg (N := 7) ?hd (cs := #[.string (⟨#[]⟩ : ByteArray), .int .i64 0, .int .i64 0, .string (⟨#[]⟩ : ByteArray)]) (t := 62) ?hr ?_; (case hd => rfl); (case hg => rfl); (case hr => first | (go_simp; done) | (go_simp; rfl)); intro gb235 hg w12 hbox hb; have n0_ := bb_ (bu_ BK233) hb; have n1_ := bs_ (be_ HB) hb; have n2_ := Aside0.mk (hbox); have n3_ := gs_ hg (be_ HB); have n4_ := gs_ hg (be_ HB); have n5_ := nl_ hg (bu_ BK233); have n6_ := ng_ hg (bu_ BK233); clear BK233; clear HB; have BK233 := n0_; have HB := n1_; have BK235 := n2_; have GW235 := n3_; have GE235 := n4_; have NB233_235 := n5_; have NB235_233 := n6_; clear n0_ n1_ n2_ n3_ n4_ n5_ n6_; clear hb hbox hg; have hnb13 := NB235_233.out; have hnc13 := NB233_235.out; have hcz14_0 : w12.cell? ⟨gb235, 0, none⟩ = some (.string (⟨#[]⟩ : ByteArray)) := (blk_cell BK235.out 0).trans rfl; have hcz14_1 : w12.cell? ⟨gb235, 1, none⟩ = some (.int .i64 0) := (blk_cell BK235.out 1).trans rfl; have hcz14_2 : w12.cell? ⟨gb235, 2, none⟩ = some (.int .i64 0) := (blk_cell BK235.out 2).trans rfl; have hcz14_3 : w12.cell? ⟨gb235, 3, none⟩ = some (.string (⟨#[]⟩ : ByteArray)) := (blk_cell BK235.out 3).trans rfl; have hfz14_0 := blk_frozen BK235.out 0; have hfz14_1 := blk_frozen BK235.out 1; have hfz14_2 := blk_frozen BK235.out 2; have hfz14_3 := blk_frozen BK235.out 3))
              go_roundg k1
              case measure => have := HK1.out; omega
              case rel => exact ⟨(wrap64 (x10_1 + 1)), (x234000_1), (x234001_1), (x234002_1), ra_, H', ⟨by have := HK1.out; omega⟩, ⟨by (with_reducible repeat (first | refine blk_drewN ?_ _ | refine blk_drew ?_ | refine blk_alloc ?_ _)); refine blk_far ?_ NB233_235.out _; (with_reducible repeat (first | refine blk_drewN ?_ _ | refine blk_drew ?_ | refine blk_alloc ?_ _)); refine blk_far ?_ NB233_235.out _; (with_reducible repeat (first | refine blk_drewN ?_ _ | refine blk_drew ?_ | refine blk_alloc ?_ _)); refine blk_far ?_ NB233_235.out _; (with_reducible repeat (first | refine blk_drewN ?_ _ | refine blk_drew ?_ | refine blk_alloc ?_ _)); refine blk_far ?_ NB233_235.out _; (with_reducible repeat (first | refine blk_drewN ?_ _ | refine blk_drew ?_ | refine blk_alloc ?_ _)); exact BK233.out⟩, ⟨by repeat (first | (with_reducible first | exact HB.out | apply below_alloc | apply pw_below_drewN | apply below_drew1 | refine below_set ?_ GE233.out | refine below_set ?_ GE235.out) | exact HB.out)⟩⟩
          · rw [if_neg c6] at H
            exact absurd H (by simp)
        · rw [if_neg c5] at H
          exact absurd H (by simp)
      · rw [if_neg c4] at H
        have c4b0 : decide (x10_1 < (l0.length : Int)) = false := decide_eq_false c4
        clear c4
        simp only [Option.some.injEq, Prod.mk.injEq] at H
        obtain ⟨rfl, rfl, rfl, rfl⟩ := H
        have hcz15_0 : wr.cell? ⟨gb233, 0, none⟩ = some (.int .i64 x234000_1) := (blk_cell BK233.out 0).trans rfl
        have hcz15_1 : wr.cell? ⟨gb233, 1, none⟩ = some (.int .i64 x234001_1) := (blk_cell BK233.out 1).trans rfl
        have hcz15_2 : wr.cell? ⟨gb233, 2, none⟩ = some (.string x234002_1) := (blk_cell BK233.out 2).trans rfl
        have hfz15_0 := blk_frozen BK233.out 0
        have hfz15_1 := blk_frozen BK233.out 1
        have hfz15_2 := blk_frozen BK233.out 2
        go_wp2
        refine bodyPost_ret (results_ct rfl _ _ gb233 40 #[.int .i64 0, .int .i64 0, .string (⟨#[]⟩ : ByteArray)] (0, 0) _ rfl (bp_ BK233) Try.underlying40 rfl (by kernel_rfl)) rfl ?_
        exact ⟨by first | rfl | (simp [errW_none, errW_some] <;> rfl) | (simp [*, errW_none, errW_some] <;> rfl), by repeat (first | (with_reducible first | exact HB.out | apply below_alloc | apply pw_below_drewN | apply below_drew1 | refine below_set ?_ GE233.out) | exact HB.out)⟩
end Go.Proofs.Ytconpnagoijacaa.P
end
section
namespace Go.Proofs.Ytconpnagoijacaa.P
open Go.RowKit Go.Proofs.YtconpnagoijacaaW.PrintWords Go.Proofs.YtconpnagoijacaaW.PrintLast Go.Proofs.YtconpnagoijacaaW.PrintMore
attribute [local go_sem] max2_int min2_int max_two min_two max_three min_three max_four min_four
set_option linter.unusedVariables false
set_option linter.unusedSimpArgs false
def expr_push.f (k : Nat) (a0_0 : Int) (a0_1 : ByteArray) (a0_2 : Int) (a0_3 : Int) (a0_4 : ByteArray) (l1 : List (S62)) : Option (Int × Int × ByteArray × Int) := if a0_0 = 2 then (some (a0_2, a0_3, a0_4, 0)) else ((subst_Get.f k l1 a0_1).bind fun bt238 => (if bt238.2.2.2 = true then (some (bt238.1, bt238.2.1, bt238.2.2.1, 0)) else (some (0, 0, (⟨#[]⟩ : ByteArray), 5))))
theorem expr_push.mono : ∀ a0 a1 a2 a3 a4 a5 k, LeO (expr_push.f k a0 a1 a2 a3 a4 a5) (expr_push.f (k + 1) a0 a1 a2 a3 a4 a5) := by
  intro a0 a1 a2 a3 a4 a5 k
  unfold expr_push.f
  repeat' first
      | (with_reducible exact subst_Get.mono _ _ _)
      | (with_reducible exact LeO.refl _)
      | (with_reducible exact LeO.none _)
      | (with_reducible refine LeO.ite ?_ ?_)
      | (with_reducible refine LeO.bind ?_ (fun _ => ?_))
      | exact subst_Get.mono _ _ _
      | exact LeO.none _
      | refine LeO.ite ?_ ?_
      | refine LeO.bind ?_ (fun _ => ?_)
set_option maxHeartbeats 8000000 in
set_option maxRecDepth 100000 in
theorem expr_push.calls (k : Nat) (a0_0 : Int) (a0_1 : ByteArray) (a0_2 : Int) (a0_3 : Int) (a0_4 : ByteArray) (A1 : Option Addr) (c1 : Nat) (l1 : List (S62)) (r1 : Int) (r2 : Int) (r3 : ByteArray) (r4 : Int) (w : World) (hr1 : Kd.C k62 w A1 l1.length l1) (hc1 : l1.length ≤ c1) (h : expr_push.f k a0_0 a0_1 a0_2 a0_3 a0_4 l1 = some (r1, r2, r3, r4)) :
    Calls Try.prog 41 #[.agg #[.int .i64 a0_0, .string a0_1, .int .i64 a0_2, .int .i64 a0_3, .string a0_4], .slice A1 l1.length c1] w fun e w' => e = .returned (.tuple #[.agg #[.int .i64 r1, .int .i64 r2, .string r3], .int .i64 r4]) ∧ Below w.heap.size w w' := by
  have hu52 := Try.underlying52
  have hu40 := Try.underlying40
  have HR1 := Aside0.mk hr1
  have HC1 := Aside0.mk hc1
  clear hr1 hc1
  have HB := Aside0.mk (Below.refl w.heap.size w)
  have H : (if a0_0 = 2 then (some (a0_2, a0_3, a0_4, 0)) else ((subst_Get.f k l1 a0_1).bind fun bt238 => (if bt238.2.2.2 = true then (some (bt238.1, bt238.2.1, bt238.2.2.1, 0)) else (some (0, 0, (⟨#[]⟩ : ByteArray), 5))))) = some (r1, r2, r3, r4) := h
  clear h
  by_cases c3 : a0_0 = 2
  · rw [if_pos c3] at H
    obtain ⟨c3b0, c3b1⟩ := eqB_ c3
    clear c3
    simp only [Option.some.injEq, Prod.mk.injEq] at H
    obtain ⟨rfl, rfl, rfl, rfl⟩ := H
    go_enter Try.func41, Try.ntmps41
    go_wp2_with (first | ((with_reducible refine gate_dst (N := 2) rfl ?_); refine box_event ?hg (N := 2) ?hd (cs := #[.int .i64 a0_0, .string a0_1, .int .i64 a0_2, .int .i64 a0_3, .string a0_4]) (t := 52) ?hr ?_; (case hd => rfl); (case hg => rfl); (case hr => first | (go_simp; done) | (go_simp; rfl)); intro gb236 hg w4 hbox hb; have n0_ := bs_ (be_ HB) hb; have n1_ := Aside0.mk (hbox); have n2_ := gs_ hg (be_ HB); have n3_ := gs_ hg (be_ HB); clear HB; have HB := n0_; have BK236 := n1_; have GW236 := n2_; have GE236 := n3_; clear n0_ n1_ n2_ n3_; clear hb hbox hg) | ((with_reducible refine gate_dst (N := 4) rfl ?_); refine box_event ?hg (N := 4) ?hd (cs := #[.int .i64 0, .int .i64 0, .string (⟨#[]⟩ : ByteArray)]) (t := 40) ?hr ?_; (case hd => rfl); (case hg => rfl); (case hr => first | (go_simp; done) | (go_simp; rfl)); intro gb237 hg w5 hbox hb; have n0_ := bb_ (bu_ BK236) hb; have n1_ := bs_ (be_ HB) hb; have n2_ := Aside0.mk (hbox); have n3_ := gs_ hg (be_ HB); have n4_ := gs_ hg (be_ HB); have n5_ := nl_ hg (bu_ BK236); have n6_ := ng_ hg (bu_ BK236); clear BK236; clear HB; have BK236 := n0_; have HB := n1_; have BK237 := n2_; have GW237 := n3_; have GE237 := n4_; have NB236_237 := n5_; have NB237_236 := n6_; clear n0_ n1_ n2_ n3_ n4_ n5_ n6_; clear hb hbox hg; have hnb6 := NB236_237.out; have hnc6 := NB237_236.out; have hcz7_0 : w5.cell? ⟨gb236, 0, none⟩ = some (.int .i64 a0_0) := (blk_cell BK236.out 0).trans rfl; have hcz7_1 : w5.cell? ⟨gb236, 1, none⟩ = some (.string a0_1) := (blk_cell BK236.out 1).trans rfl; have hcz7_2 : w5.cell? ⟨gb236, 2, none⟩ = some (.int .i64 a0_2) := (blk_cell BK236.out 2).trans rfl; have hcz7_3 : w5.cell? ⟨gb236, 3, none⟩ = some (.int .i64 a0_3) := (blk_cell BK236.out 3).trans rfl; have hcz7_4 : w5.cell? ⟨gb236, 4, none⟩ = some (.string a0_4) := (blk_cell BK236.out 4).trans rfl; have hfz7_0 := blk_frozen BK236.out 0; have hfz7_1 := blk_frozen BK236.out 1; have hfz7_2 := blk_frozen BK236.out 2; have hfz7_3 := blk_frozen BK236.out 3; have hfz7_4 := blk_frozen BK236.out 4; have hcz8_0 : w5.cell? ⟨gb237, 0, none⟩ = some (.int .i64 0) := (blk_cell BK237.out 0).trans rfl; have hcz8_1 : w5.cell? ⟨gb237, 1, none⟩ = some (.int .i64 0) := (blk_cell BK237.out 1).trans rfl; have hcz8_2 : w5.cell? ⟨gb237, 2, none⟩ = some (.string (⟨#[]⟩ : ByteArray)) := (blk_cell BK237.out 2).trans rfl; have hfz8_0 := blk_frozen BK237.out 0; have hfz8_1 := blk_frozen BK237.out 1; have hfz8_2 := blk_frozen BK237.out 2))
    refine bodyPost_ret (results_ct rfl _ _ gb237 40 #[.int .i64 a0_2, .int .i64 a0_3, .string a0_4] (0, 0) _ rfl (bp_ BK237) Try.underlying40 rfl (by kernel_rfl)) rfl ?_
    exact ⟨by first | rfl | (simp [errW_none, errW_some] <;> rfl) | (simp [*, errW_none, errW_some] <;> rfl), by repeat (first | (with_reducible first | exact HB.out | apply below_alloc | apply pw_below_drewN | apply below_drew1 | refine below_set ?_ GE236.out | refine below_set ?_ GE237.out) | exact HB.out)⟩
  · rw [if_neg c3] at H
    obtain ⟨c3b0, c3b1⟩ := neB_ c3
    replace H := Option.bind_eq_some_iff.mp H
    obtain ⟨⟨t238, t239, t240, t241⟩, A90, H⟩ := H
    replace H : (if t241 = true then (some (t238, t239, t240, 0)) else (some (0, 0, (⟨#[]⟩ : ByteArray), 5))) = some (r1, r2, r3, r4) := H
    have A9 := Aside0.mk A90
    clear A90
    by_cases c10 : t241 = true
    · subst c10
      have H1 : (some (t238, t239, t240, 0)) = some (r1, r2, r3, r4) := by rw [if_pos rfl] at H; exact H
      clear H
      have H := H1
      clear H1
      simp only [Option.some.injEq, Prod.mk.injEq] at H
      obtain ⟨rfl, rfl, rfl, rfl⟩ := H
      go_enter Try.func41, Try.ntmps41
      go_wp2_with (first | ((with_reducible refine gate_dst (N := 2) rfl ?_); refine box_event ?hg (N := 2) ?hd (cs := #[.int .i64 a0_0, .string a0_1, .int .i64 a0_2, .int .i64 a0_3, .string a0_4]) (t := 52) ?hr ?_; (case hd => rfl); (case hg => rfl); (case hr => first | (go_simp; done) | (go_simp; rfl)); intro gb236 hg w11 hbox hb; have n0_ := bs_ (be_ HB) hb; have n1_ := Aside0.mk (hbox); have n2_ := gs_ hg (be_ HB); have n3_ := gs_ hg (be_ HB); clear HB; have HB := n0_; have BK236 := n1_; have GW236 := n2_; have GE236 := n3_; clear n0_ n1_ n2_ n3_; clear hb hbox hg) | ((with_reducible refine gate_dst (N := 4) rfl ?_); refine box_event ?hg (N := 4) ?hd (cs := #[.int .i64 0, .int .i64 0, .string (⟨#[]⟩ : ByteArray)]) (t := 40) ?hr ?_; (case hd => rfl); (case hg => rfl); (case hr => first | (go_simp; done) | (go_simp; rfl)); intro gb237 hg w12 hbox hb; have n0_ := bb_ (bu_ BK236) hb; have n1_ := bs_ (be_ HB) hb; have n2_ := Aside0.mk (hbox); have n3_ := gs_ hg (be_ HB); have n4_ := gs_ hg (be_ HB); have n5_ := nl_ hg (bu_ BK236); have n6_ := ng_ hg (bu_ BK236); clear BK236; clear HB; have BK236 := n0_; have HB := n1_; have BK237 := n2_; have GW237 := n3_; have GE237 := n4_; have NB236_237 := n5_; have NB237_236 := n6_; clear n0_ n1_ n2_ n3_ n4_ n5_ n6_; clear hb hbox hg; have hnb13 := NB236_237.out; have hnc13 := NB237_236.out; have hcz14_0 : w12.cell? ⟨gb236, 0, none⟩ = some (.int .i64 a0_0) := (blk_cell BK236.out 0).trans rfl; have hcz14_1 : w12.cell? ⟨gb236, 1, none⟩ = some (.string a0_1) := (blk_cell BK236.out 1).trans rfl; have hcz14_2 : w12.cell? ⟨gb236, 2, none⟩ = some (.int .i64 a0_2) := (blk_cell BK236.out 2).trans rfl; have hcz14_3 : w12.cell? ⟨gb236, 3, none⟩ = some (.int .i64 a0_3) := (blk_cell BK236.out 3).trans rfl; have hcz14_4 : w12.cell? ⟨gb236, 4, none⟩ = some (.string a0_4) := (blk_cell BK236.out 4).trans rfl; have hfz14_0 := blk_frozen BK236.out 0; have hfz14_1 := blk_frozen BK236.out 1; have hfz14_2 := blk_frozen BK236.out 2; have hfz14_3 := blk_frozen BK236.out 3; have hfz14_4 := blk_frozen BK236.out 4) | ((with_reducible refine gate_callee (f := 52) rfl ?_); refine goesL_ (some 17) rfl rfl Try.func52 (by kernel_rfl) rfl #[.slice A1 l1.length c1, .string a0_1] rfl ga_ ?_; (with_reducible refine (subst_Get.calls k _ _ l1 a0_1 t238 t239 t240 true _ ?side1 ?side2 A9.out).mono ?_); (case side1 => repeat (first | exact (Kd.C_below HR1.out HB.out) | (with_reducible refine Kd.C_alloc ?_ _) | (with_reducible refine Kd.C_drewN ?_ _) | (with_reducible refine Kd.C_drew ?_))); (case side2 => exact HC1.out); rintro e w15 ⟨rfl, hb⟩; refine ⟨_, rfl, ?_⟩; have n0_ := bb_ (bu_ BK236) hb; have n1_ := bb_ (bu_ BK237) hb; have n2_ := bs_ (be_ HB) hb; clear BK236; clear BK237; clear HB; have BK236 := n0_; have BK237 := n1_; have HB := n2_; clear n0_ n1_ n2_; (try clear hb); (try clear hb2); (try clear hk); (try clear hi)) | ((with_reducible refine gate_dst (N := 6) rfl ?_); refine box_event ?hg (N := 6) ?hd (cs := #[.int .i64 0, .int .i64 0, .string (⟨#[]⟩ : ByteArray)]) (t := 40) ?hr ?_; (case hd => rfl); (case hg => rfl); (case hr => first | (go_simp; done) | (go_simp; rfl)); intro gb242 hg w16 hbox hb; have n0_ := bb_ (bu_ BK236) hb; have n1_ := bb_ (bu_ BK237) hb; have n2_ := bs_ (be_ HB) hb; have n3_ := Aside0.mk (hbox); have n4_ := gs_ hg (be_ HB); have n5_ := gs_ hg (be_ HB); have n6_ := nl_ hg (bu_ BK236); have n7_ := ng_ hg (bu_ BK236); have n8_ := nl_ hg (bu_ BK237); have n9_ := ng_ hg (bu_ BK237); clear BK236; clear BK237; clear HB; have BK236 := n0_; have BK237 := n1_; have HB := n2_; have BK242 := n3_; have GW242 := n4_; have GE242 := n5_; have NB236_242 := n6_; have NB242_236 := n7_; have NB237_242 := n8_; have NB242_237 := n9_; clear n0_ n1_ n2_ n3_ n4_ n5_ n6_ n7_ n8_ n9_; clear hb hbox hg; have hnb17 := NB242_236.out; have hnc17 := NB236_242.out; have hnb18 := NB242_237.out; have hnc18 := NB237_242.out; have hcz19_0 : w16.cell? ⟨gb242, 0, none⟩ = some (.int .i64 0) := (blk_cell BK242.out 0).trans rfl; have hcz19_1 : w16.cell? ⟨gb242, 1, none⟩ = some (.int .i64 0) := (blk_cell BK242.out 1).trans rfl; have hcz19_2 : w16.cell? ⟨gb242, 2, none⟩ = some (.string (⟨#[]⟩ : ByteArray)) := (blk_cell BK242.out 2).trans rfl; have hfz19_0 := blk_frozen BK242.out 0; have hfz19_1 := blk_frozen BK242.out 1; have hfz19_2 := blk_frozen BK242.out 2; have hcz20_0 : w16.cell? ⟨gb237, 0, none⟩ = some (.int .i64 0) := (blk_cell BK237.out 0).trans rfl; have hcz20_1 : w16.cell? ⟨gb237, 1, none⟩ = some (.int .i64 0) := (blk_cell BK237.out 1).trans rfl; have hcz20_2 : w16.cell? ⟨gb237, 2, none⟩ = some (.string (⟨#[]⟩ : ByteArray)) := (blk_cell BK237.out 2).trans rfl; have hfz20_0 := blk_frozen BK237.out 0; have hfz20_1 := blk_frozen BK237.out 1; have hfz20_2 := blk_frozen BK237.out 2))
      refine bodyPost_ret (results_ct rfl _ _ gb237 40 #[.int .i64 t238, .int .i64 t239, .string t240] (0, 0) _ rfl (bp_ BK237) Try.underlying40 rfl (by kernel_rfl)) rfl ?_
      exact ⟨by first | rfl | (simp [errW_none, errW_some] <;> rfl) | (simp [*, errW_none, errW_some] <;> rfl), by repeat (first | (with_reducible first | exact HB.out | apply below_alloc | apply pw_below_drewN | apply below_drew1 | refine below_set ?_ GE236.out | refine below_set ?_ GE237.out | refine below_set ?_ GE242.out) | exact HB.out)⟩
    · replace c10 := Bool.eq_false_iff.mpr c10
      subst c10
      have H1 : (some (0, 0, (⟨#[]⟩ : ByteArray), 5)) = some (r1, r2, r3, r4) := by rw [if_neg (show ¬ (false = true) by decide)] at H; exact H
      clear H
      have H := H1
      clear H1
      simp only [Option.some.injEq, Prod.mk.injEq] at H
      obtain ⟨rfl, rfl, rfl, rfl⟩ := H
      go_enter Try.func41, Try.ntmps41
      go_wp2_with (first | ((with_reducible refine gate_dst (N := 2) rfl ?_); refine box_event ?hg (N := 2) ?hd (cs := #[.int .i64 a0_0, .string a0_1, .int .i64 a0_2, .int .i64 a0_3, .string a0_4]) (t := 52) ?hr ?_; (case hd => rfl); (case hg => rfl); (case hr => first | (go_simp; done) | (go_simp; rfl)); intro gb236 hg w21 hbox hb; have n0_ := bs_ (be_ HB) hb; have n1_ := Aside0.mk (hbox); have n2_ := gs_ hg (be_ HB); have n3_ := gs_ hg (be_ HB); clear HB; have HB := n0_; have BK236 := n1_; have GW236 := n2_; have GE236 := n3_; clear n0_ n1_ n2_ n3_; clear hb hbox hg) | ((with_reducible refine gate_dst (N := 4) rfl ?_); refine box_event ?hg (N := 4) ?hd (cs := #[.int .i64 0, .int .i64 0, .string (⟨#[]⟩ : ByteArray)]) (t := 40) ?hr ?_; (case hd => rfl); (case hg => rfl); (case hr => first | (go_simp; done) | (go_simp; rfl)); intro gb237 hg w22 hbox hb; have n0_ := bb_ (bu_ BK236) hb; have n1_ := bs_ (be_ HB) hb; have n2_ := Aside0.mk (hbox); have n3_ := gs_ hg (be_ HB); have n4_ := gs_ hg (be_ HB); have n5_ := nl_ hg (bu_ BK236); have n6_ := ng_ hg (bu_ BK236); clear BK236; clear HB; have BK236 := n0_; have HB := n1_; have BK237 := n2_; have GW237 := n3_; have GE237 := n4_; have NB236_237 := n5_; have NB237_236 := n6_; clear n0_ n1_ n2_ n3_ n4_ n5_ n6_; clear hb hbox hg; have hnb23 := NB236_237.out; have hnc23 := NB237_236.out; have hcz24_0 : w22.cell? ⟨gb236, 0, none⟩ = some (.int .i64 a0_0) := (blk_cell BK236.out 0).trans rfl; have hcz24_1 : w22.cell? ⟨gb236, 1, none⟩ = some (.string a0_1) := (blk_cell BK236.out 1).trans rfl; have hcz24_2 : w22.cell? ⟨gb236, 2, none⟩ = some (.int .i64 a0_2) := (blk_cell BK236.out 2).trans rfl; have hcz24_3 : w22.cell? ⟨gb236, 3, none⟩ = some (.int .i64 a0_3) := (blk_cell BK236.out 3).trans rfl; have hcz24_4 : w22.cell? ⟨gb236, 4, none⟩ = some (.string a0_4) := (blk_cell BK236.out 4).trans rfl; have hfz24_0 := blk_frozen BK236.out 0; have hfz24_1 := blk_frozen BK236.out 1; have hfz24_2 := blk_frozen BK236.out 2; have hfz24_3 := blk_frozen BK236.out 3; have hfz24_4 := blk_frozen BK236.out 4) | ((with_reducible refine gate_callee (f := 52) rfl ?_); refine goesL_ (some 17) rfl rfl Try.func52 (by kernel_rfl) rfl #[.slice A1 l1.length c1, .string a0_1] rfl ga_ ?_; (with_reducible refine (subst_Get.calls k _ _ l1 a0_1 t238 t239 t240 false _ ?side1 ?side2 A9.out).mono ?_); (case side1 => repeat (first | exact (Kd.C_below HR1.out HB.out) | (with_reducible refine Kd.C_alloc ?_ _) | (with_reducible refine Kd.C_drewN ?_ _) | (with_reducible refine Kd.C_drew ?_))); (case side2 => exact HC1.out); rintro e w25 ⟨rfl, hb⟩; refine ⟨_, rfl, ?_⟩; have n0_ := bb_ (bu_ BK236) hb; have n1_ := bb_ (bu_ BK237) hb; have n2_ := bs_ (be_ HB) hb; clear BK236; clear BK237; clear HB; have BK236 := n0_; have BK237 := n1_; have HB := n2_; clear n0_ n1_ n2_; (try clear hb); (try clear hb2); (try clear hk); (try clear hi)) | ((with_reducible refine gate_dst (N := 6) rfl ?_); refine box_event ?hg (N := 6) ?hd (cs := #[.int .i64 0, .int .i64 0, .string (⟨#[]⟩ : ByteArray)]) (t := 40) ?hr ?_; (case hd => rfl); (case hg => rfl); (case hr => first | (go_simp; done) | (go_simp; rfl)); intro gb242 hg w26 hbox hb; have n0_ := bb_ (bu_ BK236) hb; have n1_ := bb_ (bu_ BK237) hb; have n2_ := bs_ (be_ HB) hb; have n3_ := Aside0.mk (hbox); have n4_ := gs_ hg (be_ HB); have n5_ := gs_ hg (be_ HB); have n6_ := nl_ hg (bu_ BK236); have n7_ := ng_ hg (bu_ BK236); have n8_ := nl_ hg (bu_ BK237); have n9_ := ng_ hg (bu_ BK237); clear BK236; clear BK237; clear HB; have BK236 := n0_; have BK237 := n1_; have HB := n2_; have BK242 := n3_; have GW242 := n4_; have GE242 := n5_; have NB236_242 := n6_; have NB242_236 := n7_; have NB237_242 := n8_; have NB242_237 := n9_; clear n0_ n1_ n2_ n3_ n4_ n5_ n6_ n7_ n8_ n9_; clear hb hbox hg; have hnb27 := NB242_236.out; have hnc27 := NB236_242.out; have hnb28 := NB242_237.out; have hnc28 := NB237_242.out; have hcz29_0 : w26.cell? ⟨gb242, 0, none⟩ = some (.int .i64 0) := (blk_cell BK242.out 0).trans rfl; have hcz29_1 : w26.cell? ⟨gb242, 1, none⟩ = some (.int .i64 0) := (blk_cell BK242.out 1).trans rfl; have hcz29_2 : w26.cell? ⟨gb242, 2, none⟩ = some (.string (⟨#[]⟩ : ByteArray)) := (blk_cell BK242.out 2).trans rfl; have hfz29_0 := blk_frozen BK242.out 0; have hfz29_1 := blk_frozen BK242.out 1; have hfz29_2 := blk_frozen BK242.out 2; have hcz30_0 : w26.cell? ⟨gb237, 0, none⟩ = some (.int .i64 0) := (blk_cell BK237.out 0).trans rfl; have hcz30_1 : w26.cell? ⟨gb237, 1, none⟩ = some (.int .i64 0) := (blk_cell BK237.out 1).trans rfl; have hcz30_2 : w26.cell? ⟨gb237, 2, none⟩ = some (.string (⟨#[]⟩ : ByteArray)) := (blk_cell BK237.out 2).trans rfl; have hfz30_0 := blk_frozen BK237.out 0; have hfz30_1 := blk_frozen BK237.out 1; have hfz30_2 := blk_frozen BK237.out 2))
      refine bodyPost_ret (results_ct rfl _ _ gb237 40 #[.int .i64 0, .int .i64 0, .string (⟨#[]⟩ : ByteArray)] (0, 0) _ rfl (bp_ BK237) Try.underlying40 rfl (by kernel_rfl)) rfl ?_
      exact ⟨by first | rfl | (simp [errW_none, errW_some] <;> rfl) | (simp [*, errW_none, errW_some] <;> rfl), by repeat (first | (with_reducible first | exact HB.out | apply below_alloc | apply pw_below_drewN | apply below_drew1 | refine below_set ?_ GE236.out | refine below_set ?_ GE237.out | refine below_set ?_ GE242.out) | exact HB.out)⟩
end Go.Proofs.Ytconpnagoijacaa.P
end
