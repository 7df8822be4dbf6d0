/- Part of the proof of LexJoin. -/
import Derived.Test.YtefolkppcdjbpaaDoorPvU
namespace Go.PV
open Go
/-! what the small functions compute, over lists of bytes -/
abbrev Bs := List UInt8
def inB (a b : Nat) (c : UInt8) : Bool := decide (a ≤ c.toNat ∧ c.toNat ≤ b)
def smallB (c : UInt8) : Bool := inB 97 122 c
def largeB (c : UInt8) : Bool := inB 65 90 c
def digitB (c : UInt8) : Bool := inB 48 57 c
def letterB (c : UInt8) : Bool := smallB c || largeB c || digitB c || decide (c.toNat = 95)
def blankB (c : UInt8) : Bool := decide (c.toNat = 32 ∨ c.toNat = 9 ∨ c.toNat = 13 ∨ c.toNat = 10)
def plainB (c : UInt8) : Bool := inB 32 126 c
def escB (c : UInt8) : Bool := decide (c.toNat = 34 ∨ c.toNat = 92)
structure Val where
  k : Int
  n : Int
  s : Bs
abbrev Val.c (v : Val) : List V := [.int .i64 v.k, .int .i64 v.n, .str v.s]
def symbolS (s : Bs) : Bool := decide (1 ≤ s.length) && decide (s.length ≤ 24) && (match s with | c :: _ => smallB c | [] => false) && s.all letterB
def plainS (s : Bs) : Bool := s.all plainB && decide (s.length ≤ 60)
def inR (n : Int) : Bool := decide (-4611686018427387904 ≤ n ∧ n ≤ 4611686018427387904)
def checkS (v : Val) : Bool :=
  if v.k = 1 then inR v.n && decide (v.s = []) else if v.k = 2 then decide (v.n = 0) && symbolS v.s else if v.k = 3 then decide (v.n = 0) && plainS v.s else false
def quoteB (c : UInt8) : Bs := if escB c then [92, c] else [c]
def quotedS (s : Bs) : Bs := 34 :: s.flatMap quoteB ++ [34]
def textV (v : Val) : Bs := if checkS v then (if v.k = 1 then Lib.itoa v.n else if v.k = 2 then v.s else quotedS v.s) else []
/-- the middle, without the signs ahead of a sign -/
def bareM : Bs → Bs
  | [] => []
  | [c] => [c]
  | c :: d :: r => if c.toNat = 92 then d :: bareM r else c :: bareM (d :: r)
def bareS (s : Bs) : Bs := bareM ((s.drop 1).take (s.length - 2))
def atoiN (s : List UInt8) : Int := match Lib.atoiAll s with
  | .ok v => v
  | .«syntax» => 0
  | .range => Lib.atoiSat s
def atoiOk (s : List UInt8) : Bool := match Lib.atoiAll s with
  | .ok _ => true
  | _ => false
def errV (b : Bool) : V := if b then .nili else .ifc
/-- what a text may be, before it is looked at -/
def guessS (s : Bs) : Option Val := match s with
  | [] => none
  | c :: _ => if c.toNat = 34 then some ⟨3, 0, bareS s⟩ else if c.toNat = 45 ∨ digitB c then (if atoiOk s then some ⟨1, atoiN s, []⟩ else none) else some ⟨2, 0, s⟩
def parseS (s : Bs) : Option Val := match guessS s with
  | some v => if checkS v && decide (textV v = s) then some v else none
  | none => none
def zeroV : Val := ⟨0, 0, []⟩
theorem inB_iff {a b : Nat} {c : UInt8} : inB a b c = true ↔ a ≤ c.toNat ∧ c.toNat ≤ b := by simp [inB]
theorem inB_no {a b : Nat} {c : UInt8} : inB a b c = false ↔ ¬ (a ≤ c.toNat ∧ c.toNat ≤ b) := by simp only [inB, decide_eq_false_iff_not]
theorem drop_cons {s : Bs} {k : Nat} (h : k < s.length) : s.drop k = s[k] :: s.drop (k + 1) := List.drop_eq_getElem_cons h
theorem all_drop {p : UInt8 → Bool} {s : Bs} {k : Nat} (h : k < s.length) : (s.drop k).all p = (p s[k] && (s.drop (k + 1)).all p) := by rw [drop_cons h]; rfl
theorem takeWhile_drop {p : UInt8 → Bool} {s : Bs} {k : Nat} (h : k < s.length) : (s.drop k).takeWhile p = if p s[k] then s[k] :: (s.drop (k + 1)).takeWhile p else [] := by
  rw [drop_cons h, List.takeWhile_cons]
theorem idx {s : Bs} {k : Nat} {x : Int} (h : k < s.length) (e : x = k) : 0 ≤ x ∧ s[x.toNat]? = some s[k] := by
  subst e; exact ⟨by omega, by simp [h]⟩
theorem idxM {α β : Type} {f : α → β} {l : List α} {k : Nat} {x : Int} (h : k < l.length) (e : x = k) : 0 ≤ x ∧ (l.map f)[x.toNat]? = some (f l[k]) := by
  subst e; exact ⟨by omega, by simp [h]⟩
theorem idxB {α β : Type} {f : α → β} {l : List α} {k : Nat} {x : Int} (h : k < l.length) (e : x = k) : 0 ≤ x ∧ x < (l.map f).length := by
  subst e; rw [List.length_map]; omega
theorem map_snoc {α β : Type} (f : α → β) (l : List α) {k : Nat} (h : k < l.length) : (l.take (k + 1)).map f = (l.take k).map f ++ [f l[k]] := by
  rw [← List.take_append_getElem h, List.map_append]; rfl
theorem modk {m : Int} (h0 : 0 < m) (h1 : m ≤ 1000000) (n : Int) : ∃ k : Nat, (k : Int) < m ∧ IntKind.i64.wrap ((IntKind.u64.wrap n).tmod m) = k := by
  have h2 : 0 ≤ IntKind.u64.wrap n := by rw [wru]; omega
  have h3 := Int.tmod_nonneg m h2
  have h4 := Int.tmod_lt_of_pos (IntKind.u64.wrap n) h0
  exact ⟨((IntKind.u64.wrap n).tmod m).toNat, by omega, by rw [wr (by omega) (by omega)]; omega⟩
/-- bytes as cells -/
def bytesX (l : Bs) : List (List V) := l.map fun c => [.int .u8 c.toNat]
theorem bytesX_len (l : Bs) : (bytesX l).length = l.length := by simp [bytesX]
theorem bytesX_app (l m : Bs) : bytesX l ++ bytesX m = bytesX (l ++ m) := by simp [bytesX]
theorem bytesX_snoc (l : Bs) (c : UInt8) : bytesX l ++ [[.int .u8 c.toNat]] = bytesX (l ++ [c]) := by simp [bytesX]
theorem bytesX_mem (l : Bs) (y : List V) (h : y ∈ bytesX l) : ∃ n : Int, y = [.int .u8 n] := by
  obtain ⟨c, _, rfl⟩ := List.mem_map.1 h; exact ⟨_, rfl⟩
theorem bytesX_back (l : Bs) : (bytesX l).map (fun y => UInt8.ofNat (numOf y).toNat) = l := by
  unfold bytesX
  rw [List.map_map]
  exact (List.map_congr_left fun c _ => by simp [numOf]).trans (List.map_id' l)
theorem flatMap_snoc (s : Bs) {k : Nat} (h : k < s.length) : (s.take (k + 1)).flatMap quoteB = (s.take k).flatMap quoteB ++ quoteB s[k] := by
  rw [← List.take_append_getElem h, List.flatMap_append]; simp
theorem flatMap_len (s : Bs) : (s.flatMap quoteB).length ≤ 2 * s.length := by
  induction s with
  | nil => simp
  | cons c s ih =>
    rw [List.flatMap_cons, List.length_append, List.length_cons]
    have : (quoteB c).length ≤ 2 := by unfold quoteB; split <;> simp
    omega
theorem head_at {s : Bs} (h : 0 < s.length) : ∃ c r, s = c :: r ∧ s[0] = c := by
  cases s with
  | nil => simp at h
  | cons c r => exact ⟨c, r, rfl, rfl⟩
end Go.PV
