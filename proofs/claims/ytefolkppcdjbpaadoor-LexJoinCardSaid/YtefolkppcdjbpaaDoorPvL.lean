/- Part of the proof of LexJoin. -/
import Derived.Test.YtefolkppcdjbpaaDoorPvS
namespace Go.PV
open Go
/-! signs of a text -/
def textGo : Nat → Bs → Nat
  | _, [] => 0
  | i, c :: r =>
    if c.toNat = 34 then i + 1
    else match r with
      | d :: r' => if c.toNat = 92 ∧ escB d then textGo (i + 2) r' else if c.toNat = 92 ∨ ¬ plainB c then 0 else textGo (i + 1) (d :: r')
      | [] => 0
def textS (s : Bs) : Nat := textGo 1 (s.drop 1)
def hasP (s p : Bs) : Bool := decide (p.length ≤ s.length) && decide (s.take p.length = p)
def trim0 (s : Bs) : Bs := s.dropWhile fun c => decide (c.toNat = 48)
def numRest (s : Bs) : Bs := if hasP s [45] then s.drop 1 else s
def numberS (s : Bs) : Option Val :=
  if numRest s = [] ∨ ¬ (numRest s).all digitB then none
  else if trim0 (numRest s) = [] then some ⟨1, 0, []⟩
  else parseS (if hasP s [45] then 45 :: trim0 (numRest s) else trim0 (numRest s))
def signs1 : Bs := [40, 41, 91, 93, 44, 46, 58, 47, 43, 42, 45, 61, 60]
def signS (s : Bs) : Nat :=
  if hasP s [33, 61] ∨ hasP s [60, 61] ∨ hasP s [45, 62] ∨ hasP s [61, 62] then 2
  else match s with
    | c :: _ => if c ∈ signs1 then 1 else 0
    | [] => 0
def headB (p : UInt8 → Bool) : Bs → Bool
  | c :: _ => p c
  | [] => false
/-- the sign ahead: its kind, its length, is it right? -/
def nextS (s : Bs) : Int × Nat × Bool := match s with
  | [] => (5, 0, false)
  | c :: r =>
    if smallB c ∨ largeB c then (if largeB c then 2 else 1, (s.takeWhile letterB).length, decide ((s.takeWhile letterB).length ≤ 24))
    else if digitB c ∨ (c.toNat = 45 ∧ headB digitB r) then
      (3, 1 + (r.takeWhile digitB).length, (numberS (s.take (1 + (r.takeWhile digitB).length))).isSome)
    else if c.toNat = 34 then (4, textS s, decide (0 < textS s) && (parseS (s.take (textS s))).isSome)
    else (5, signS s, decide (0 < signS s))
/-- how many blanks are ahead; within a comment, or not -/
def blanksN : Bool → Bs → Nat
  | _, [] => 0
  | true, c :: r => if c.toNat = 10 then 1 + blanksN false r else 1 + blanksN true r
  | false, c :: r => if c.toNat = 37 then 1 + blanksN true r else if blankB c then 1 + blanksN false r else 0
/-- the place behind a text -/
def posS (s : Bs) : Int × Int := s.foldl (fun p c => if c.toNat = 10 then (p.1 + 1, 1) else (p.1, p.2 + 1)) (1, 1)
structure Tok where
  k : Int
  t : Bs
  p : Int × Int
abbrev Tok.c (t : Tok) : List V := [.int .i64 t.k, .str t.t, .int .i64 t.p.1, .int .i64 t.p.2]
def toksGo (s : Bs) : Nat → Nat → List Tok × Option (Int × Int)
  | 0, _ => ([], none)
  | f + 1, i =>
    if i < s.length then
      let x := nextS (s.drop i)
      if x.2.2 then
        let r := toksGo s f (i + x.2.1 + blanksN false (s.drop (i + x.2.1)))
        (⟨x.1, (s.drop i).take x.2.1, posS (s.take i)⟩ :: r.1, r.2)
      else ([], some (posS (s.take i)))
    else ([], none)
def toksS (s : Bs) : List Tok × Option (Int × Int) := toksGo s s.length (blanksN false s)
theorem posS_snoc (s : Bs) {k : Nat} (h : k < s.length) : posS (s.take (k + 1)) = if s[k].toNat = 10 then ((posS (s.take k)).1 + 1, 1) else ((posS (s.take k)).1, (posS (s.take k)).2 + 1) := by
  unfold posS
  rw [← List.take_append_getElem h, List.foldl_append]; rfl
theorem posS_le (s : Bs) : ∀ k, k ≤ s.length → 1 ≤ (posS (s.take k)).1 ∧ (posS (s.take k)).1 ≤ 1 + k ∧ 1 ≤ (posS (s.take k)).2 ∧ (posS (s.take k)).2 ≤ 1 + k
  | 0, _ => by simp [posS]
  | k + 1, h => by
    have ih := posS_le s k (by omega)
    rw [posS_snoc s (by omega)]
    split
    · dsimp only; omega
    · dsimp only; omega
end Go.PV
