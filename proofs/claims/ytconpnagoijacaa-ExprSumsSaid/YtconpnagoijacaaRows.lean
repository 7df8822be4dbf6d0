/-
  No cell of these rows narrows 'for every input' (looked for: loops, veiled, ifaces, maps, wideKeys, modest, calm, conditions, laid).
  DERIVED. THE GIVEN ROWS OF THIS SEAT. 10 by the template 'for every input the law returns true; each argument reads behind the call as it read before'; 0 by the template 'total and deterministic' (their statements: YtconpnagoijacaaTotals.lean).
  GIVEN WITH THE SEED: the statements are not yours to turn. If you find one false, say at which input.
  Laid BY PROGRAM, IN A SANDBOX (cutbox-rows.mjs): the forced cells as the released guide's own fill.sh prints them over the translation 8c8b79ec8649585a… (all of the seat's roots in one cut). By AI agents, Wed Nov 11 2026. No macro, syntax, notation, axiom, sorry.
-/
import Derived.Test.YtconpnagoijacaaChecked
import GoSem.Claim
import GoSem.ClaimJoined
import GoSem.ClaimMapViews
import Derived.JoinedTies
import Derived.KernelRfl
namespace Go.Proofs.Ytconpnagoijacaa
/- THE CELL 'sum', in the pinned program and in every row, IS THE sha256 OF THE DUMP (.gsa) THAT YtconpnagoijacaaProg.lean LOADS. Nothing in Lean hashes anything: it is a label: what it is worth is what the hold of that sum in a sandbox is worth. -/
noncomputable def Try.pinned : Pinned := { name := "ytconpnagoijacaa", sum := "8c8b79ec8649585aa897c8216ce4c8e1d0dc622dfc7d724eeaecd2894a0fffa1", checked := Try.checked }
namespace Rows
def none {H : Type} : Left H := { results := [], args := [] }

/-- 'constablelaw02.NumExact': WHATEVER THE INPUT: true; the input reads as it did. -/
def numExactSpec : ChangeSpec := { name := "numExact", fn := fun _ => fun
  | [d1, d2, d3, d4] => { results := [.lit (.bool true)], args := [d1, d2, d3, d4] }
  | _ => none }
def numExactRow : OpenClaim := { program := "ytconpnagoijacaa", sum := "8c8b79ec8649585aa897c8216ce4c8e1d0dc622dfc7d724eeaecd2894a0fffa1", func := "constable/constablelaw02.NumExact", spec := "numExact", apart := false }
def NumExactSaid : Prop := numExactRow.holds Try.pinned (OpenSpec.ofChange numExactSpec)

/-- ITS FALSE NEIGHBOUR: 'it returns false'. Refute it at one input. -/
def numExactWrong : ChangeSpec := { name := "numExact", fn := fun _ => fun
  | [d1, d2, d3, d4] => { results := [.lit (.bool false)], args := [d1, d2, d3, d4] }
  | _ => none }
def NumExactWrongFalsely : Prop := numExactRow.holds Try.pinned (OpenSpec.ofChange numExactWrong)

/-- 'constablelaw02.NumBack': WHATEVER THE INPUT: true; the input reads as it did. -/
def numBackSpec : ChangeSpec := { name := "numBack", fn := fun _ => fun
  | [d1, d2, d3] => { results := [.lit (.bool true)], args := [d1, d2, d3] }
  | _ => none }
def numBackRow : OpenClaim := { program := "ytconpnagoijacaa", sum := "8c8b79ec8649585aa897c8216ce4c8e1d0dc622dfc7d724eeaecd2894a0fffa1", func := "constable/constablelaw02.NumBack", spec := "numBack", apart := false }
def NumBackSaid : Prop := numBackRow.holds Try.pinned (OpenSpec.ofChange numBackSpec)

/-- ITS FALSE NEIGHBOUR: 'it returns false'. Refute it at one input. -/
def numBackWrong : ChangeSpec := { name := "numBack", fn := fun _ => fun
  | [d1, d2, d3] => { results := [.lit (.bool false)], args := [d1, d2, d3] }
  | _ => none }
def NumBackWrongFalsely : Prop := numBackRow.holds Try.pinned (OpenSpec.ofChange numBackWrong)

/-- 'constablelaw02.NumTurn': WHATEVER THE INPUT: true; the input reads as it did. -/
def numTurnSpec : ChangeSpec := { name := "numTurn", fn := fun _ => fun
  | [d1, d2] => { results := [.lit (.bool true)], args := [d1, d2] }
  | _ => none }
def numTurnRow : OpenClaim := { program := "ytconpnagoijacaa", sum := "8c8b79ec8649585aa897c8216ce4c8e1d0dc622dfc7d724eeaecd2894a0fffa1", func := "constable/constablelaw02.NumTurn", spec := "numTurn", apart := false }
def NumTurnSaid : Prop := numTurnRow.holds Try.pinned (OpenSpec.ofChange numTurnSpec)

/-- ITS FALSE NEIGHBOUR: 'it returns false'. Refute it at one input. -/
def numTurnWrong : ChangeSpec := { name := "numTurn", fn := fun _ => fun
  | [d1, d2] => { results := [.lit (.bool false)], args := [d1, d2] }
  | _ => none }
def NumTurnWrongFalsely : Prop := numTurnRow.holds Try.pinned (OpenSpec.ofChange numTurnWrong)

/-- 'constablelaw02.NumEdges': WHATEVER THE INPUT: true; the input reads as it did. -/
def numEdgesSpec : ChangeSpec := { name := "numEdges", fn := fun _ => fun
  | [d] => { results := [.lit (.bool true)], args := [d] }
  | _ => none }
def numEdgesRow : OpenClaim := { program := "ytconpnagoijacaa", sum := "8c8b79ec8649585aa897c8216ce4c8e1d0dc622dfc7d724eeaecd2894a0fffa1", func := "constable/constablelaw02.NumEdges", spec := "numEdges", apart := false }
def NumEdgesSaid : Prop := numEdgesRow.holds Try.pinned (OpenSpec.ofChange numEdgesSpec)

/-- ITS FALSE NEIGHBOUR: 'it returns false'. Refute it at one input. -/
def numEdgesWrong : ChangeSpec := { name := "numEdges", fn := fun _ => fun
  | [d] => { results := [.lit (.bool false)], args := [d] }
  | _ => none }
def NumEdgesWrongFalsely : Prop := numEdgesRow.holds Try.pinned (OpenSpec.ofChange numEdgesWrong)

/-- 'constablelaw07.ExprExact': WHATEVER THE INPUT: true; the input reads as it did. -/
def exprExactSpec : ChangeSpec := { name := "exprExact", fn := fun _ => fun
  | [d1, d2, d3] => { results := [.lit (.bool true)], args := [d1, d2, d3] }
  | _ => none }
def exprExactRow : OpenClaim := { program := "ytconpnagoijacaa", sum := "8c8b79ec8649585aa897c8216ce4c8e1d0dc622dfc7d724eeaecd2894a0fffa1", func := "constable/constablelaw07.ExprExact", spec := "exprExact", apart := false }
def ExprExactSaid : Prop := exprExactRow.holds Try.pinned (OpenSpec.ofChange exprExactSpec)

/-- ITS FALSE NEIGHBOUR: 'it returns false'. Refute it at one input. -/
def exprExactWrong : ChangeSpec := { name := "exprExact", fn := fun _ => fun
  | [d1, d2, d3] => { results := [.lit (.bool false)], args := [d1, d2, d3] }
  | _ => none }
def ExprExactWrongFalsely : Prop := exprExactRow.holds Try.pinned (OpenSpec.ofChange exprExactWrong)

/-- 'constablelaw07.ExprParts': WHATEVER THE INPUT: true; the input reads as it did. -/
def exprPartsSpec : ChangeSpec := { name := "exprParts", fn := fun _ => fun
  | [d1, d2, d3, d4] => { results := [.lit (.bool true)], args := [d1, d2, d3, d4] }
  | _ => none }
def exprPartsRow : OpenClaim := { program := "ytconpnagoijacaa", sum := "8c8b79ec8649585aa897c8216ce4c8e1d0dc622dfc7d724eeaecd2894a0fffa1", func := "constable/constablelaw07.ExprParts", spec := "exprParts", apart := false }
def ExprPartsSaid : Prop := exprPartsRow.holds Try.pinned (OpenSpec.ofChange exprPartsSpec)

/-- ITS FALSE NEIGHBOUR: 'it returns false'. Refute it at one input. -/
def exprPartsWrong : ChangeSpec := { name := "exprParts", fn := fun _ => fun
  | [d1, d2, d3, d4] => { results := [.lit (.bool false)], args := [d1, d2, d3, d4] }
  | _ => none }
def ExprPartsWrongFalsely : Prop := exprPartsRow.holds Try.pinned (OpenSpec.ofChange exprPartsWrong)

/-- 'constablelaw07.ExprPut': WHATEVER THE INPUT: true; the input reads as it did. -/
def exprPutSpec : ChangeSpec := { name := "exprPut", fn := fun _ => fun
  | [d1, d2] => { results := [.lit (.bool true)], args := [d1, d2] }
  | _ => none }
def exprPutRow : OpenClaim := { program := "ytconpnagoijacaa", sum := "8c8b79ec8649585aa897c8216ce4c8e1d0dc622dfc7d724eeaecd2894a0fffa1", func := "constable/constablelaw07.ExprPut", spec := "exprPut", apart := false }
def ExprPutSaid : Prop := exprPutRow.holds Try.pinned (OpenSpec.ofChange exprPutSpec)

/-- ITS FALSE NEIGHBOUR: 'it returns false'. Refute it at one input. -/
def exprPutWrong : ChangeSpec := { name := "exprPut", fn := fun _ => fun
  | [d1, d2] => { results := [.lit (.bool false)], args := [d1, d2] }
  | _ => none }
def ExprPutWrongFalsely : Prop := exprPutRow.holds Try.pinned (OpenSpec.ofChange exprPutWrong)

/-- 'constablelaw07.ExprParting': WHATEVER THE INPUT: true; the input reads as it did. -/
def exprPartingSpec : ChangeSpec := { name := "exprParting", fn := fun _ => fun
  | [d] => { results := [.lit (.bool true)], args := [d] }
  | _ => none }
def exprPartingRow : OpenClaim := { program := "ytconpnagoijacaa", sum := "8c8b79ec8649585aa897c8216ce4c8e1d0dc622dfc7d724eeaecd2894a0fffa1", func := "constable/constablelaw07.ExprParting", spec := "exprParting", apart := false }
def ExprPartingSaid : Prop := exprPartingRow.holds Try.pinned (OpenSpec.ofChange exprPartingSpec)

/-- ITS FALSE NEIGHBOUR: 'it returns false'. Refute it at one input. -/
def exprPartingWrong : ChangeSpec := { name := "exprParting", fn := fun _ => fun
  | [d] => { results := [.lit (.bool false)], args := [d] }
  | _ => none }
def ExprPartingWrongFalsely : Prop := exprPartingRow.holds Try.pinned (OpenSpec.ofChange exprPartingWrong)

/-- 'constablelaw07.ExprBad': WHATEVER THE INPUT: true; the input reads as it did. -/
def exprBadSpec : ChangeSpec := { name := "exprBad", fn := fun _ => fun
  | [d] => { results := [.lit (.bool true)], args := [d] }
  | _ => none }
def exprBadRow : OpenClaim := { program := "ytconpnagoijacaa", sum := "8c8b79ec8649585aa897c8216ce4c8e1d0dc622dfc7d724eeaecd2894a0fffa1", func := "constable/constablelaw07.ExprBad", spec := "exprBad", apart := false }
def ExprBadSaid : Prop := exprBadRow.holds Try.pinned (OpenSpec.ofChange exprBadSpec)

/-- ITS FALSE NEIGHBOUR: 'it returns false'. Refute it at one input. -/
def exprBadWrong : ChangeSpec := { name := "exprBad", fn := fun _ => fun
  | [d] => { results := [.lit (.bool false)], args := [d] }
  | _ => none }
def ExprBadWrongFalsely : Prop := exprBadRow.holds Try.pinned (OpenSpec.ofChange exprBadWrong)

/-- 'constablelaw07.ExprSums': WHATEVER THE INPUT: true; the input reads as it did. -/
def exprSumsSpec : ChangeSpec := { name := "exprSums", fn := fun _ => fun
  | [d] => { results := [.lit (.bool true)], args := [d] }
  | _ => none }
def exprSumsRow : OpenClaim := { program := "ytconpnagoijacaa", sum := "8c8b79ec8649585aa897c8216ce4c8e1d0dc622dfc7d724eeaecd2894a0fffa1", func := "constable/constablelaw07.ExprSums", spec := "exprSums", apart := false }
def ExprSumsSaid : Prop := exprSumsRow.holds Try.pinned (OpenSpec.ofChange exprSumsSpec)

/-- ITS FALSE NEIGHBOUR: 'it returns false'. Refute it at one input. -/
def exprSumsWrong : ChangeSpec := { name := "exprSums", fn := fun _ => fun
  | [d] => { results := [.lit (.bool false)], args := [d] }
  | _ => none }
def ExprSumsWrongFalsely : Prop := exprSumsRow.holds Try.pinned (OpenSpec.ofChange exprSumsWrong)

/- THE SECOND FORM. 'bulk': how many values and letters a reading holds, each counted each time it is reached (what is shared counts as often as it is met; a slice's spare places count too). A statement '..UptoSaid' is the law's where the arguments, and the package variables that the reading takes, are together of bulk at most 1048576: NARROWER than '..Said'. Prove '..Said' where nothing that the law and all that it calls make is longer than what came in: it says more and counts as full. Else prove '..UptoSaid'. A law counts once. -/
mutual
def uptoBulk {H : Type} : DataW H → Nat
  | .lit (.string bytes) => bytes.length + 1
  | .lit _ => 1
  | .nil => 1
  | .ptr d => uptoBulk d + 1
  | .slice elems spare => uptoBulkAll elems + uptoBulkAll spare + 1
  | .agg parts => uptoBulkAll parts + 1
  | .iface _ d => uptoBulk d + 1
  | .map entries => uptoBulkEntries entries + 1
  | .held _ => 1
def uptoBulkAll {H : Type} : List (DataW H) → Nat
  | [] => 0
  | d :: r => uptoBulk d + uptoBulkAll r
def uptoBulkEntries {H : Type} : List (Lit × DataW H) → Nat
  | [] => 0
  | x :: r => uptoBulkEntry x + uptoBulkEntries r
def uptoBulkEntry {H : Type} : Lit × DataW H → Nat
  | (.string bytes, d) => bytes.length + uptoBulk d + 1
  | (_, d) => uptoBulk d + 1
 end
def uptoSmall : (H : Type) → List (DataW H) → Bool := fun _ ds => decide (uptoBulkAll ds ≤ 1048576)
def OpenSpec.upto (s : _root_.Go.ChangeSpec) : _root_.Go.OpenSpec := { _root_.Go.OpenSpec.ofChange s with cond := some uptoSmall }

/-- 'constablelaw02.NumExact', WHERE WHAT IT READS IS OF BULK AT MOST 1048576: true; the input reads as it did. -/
def numExactUptoRow : OpenClaim := { program := "ytconpnagoijacaa", sum := "8c8b79ec8649585aa897c8216ce4c8e1d0dc622dfc7d724eeaecd2894a0fffa1", func := "constable/constablelaw02.NumExact", spec := "numExact", apart := false, narrowed := true }
def NumExactUptoSaid : Prop := numExactUptoRow.holds Try.pinned (OpenSpec.upto numExactSpec)

/-- 'constablelaw02.NumBack', WHERE WHAT IT READS IS OF BULK AT MOST 1048576: true; the input reads as it did. -/
def numBackUptoRow : OpenClaim := { program := "ytconpnagoijacaa", sum := "8c8b79ec8649585aa897c8216ce4c8e1d0dc622dfc7d724eeaecd2894a0fffa1", func := "constable/constablelaw02.NumBack", spec := "numBack", apart := false, narrowed := true }
def NumBackUptoSaid : Prop := numBackUptoRow.holds Try.pinned (OpenSpec.upto numBackSpec)

/-- 'constablelaw02.NumTurn', WHERE WHAT IT READS IS OF BULK AT MOST 1048576: true; the input reads as it did. -/
def numTurnUptoRow : OpenClaim := { program := "ytconpnagoijacaa", sum := "8c8b79ec8649585aa897c8216ce4c8e1d0dc622dfc7d724eeaecd2894a0fffa1", func := "constable/constablelaw02.NumTurn", spec := "numTurn", apart := false, narrowed := true }
def NumTurnUptoSaid : Prop := numTurnUptoRow.holds Try.pinned (OpenSpec.upto numTurnSpec)

/-- 'constablelaw02.NumEdges', WHERE WHAT IT READS IS OF BULK AT MOST 1048576: true; the input reads as it did. -/
def numEdgesUptoRow : OpenClaim := { program := "ytconpnagoijacaa", sum := "8c8b79ec8649585aa897c8216ce4c8e1d0dc622dfc7d724eeaecd2894a0fffa1", func := "constable/constablelaw02.NumEdges", spec := "numEdges", apart := false, narrowed := true }
def NumEdgesUptoSaid : Prop := numEdgesUptoRow.holds Try.pinned (OpenSpec.upto numEdgesSpec)

/-- 'constablelaw07.ExprExact', WHERE WHAT IT READS IS OF BULK AT MOST 1048576: true; the input reads as it did. -/
def exprExactUptoRow : OpenClaim := { program := "ytconpnagoijacaa", sum := "8c8b79ec8649585aa897c8216ce4c8e1d0dc622dfc7d724eeaecd2894a0fffa1", func := "constable/constablelaw07.ExprExact", spec := "exprExact", apart := false, narrowed := true }
def ExprExactUptoSaid : Prop := exprExactUptoRow.holds Try.pinned (OpenSpec.upto exprExactSpec)

/-- 'constablelaw07.ExprParts', WHERE WHAT IT READS IS OF BULK AT MOST 1048576: true; the input reads as it did. -/
def exprPartsUptoRow : OpenClaim := { program := "ytconpnagoijacaa", sum := "8c8b79ec8649585aa897c8216ce4c8e1d0dc622dfc7d724eeaecd2894a0fffa1", func := "constable/constablelaw07.ExprParts", spec := "exprParts", apart := false, narrowed := true }
def ExprPartsUptoSaid : Prop := exprPartsUptoRow.holds Try.pinned (OpenSpec.upto exprPartsSpec)

/-- 'constablelaw07.ExprPut', WHERE WHAT IT READS IS OF BULK AT MOST 1048576: true; the input reads as it did. -/
def exprPutUptoRow : OpenClaim := { program := "ytconpnagoijacaa", sum := "8c8b79ec8649585aa897c8216ce4c8e1d0dc622dfc7d724eeaecd2894a0fffa1", func := "constable/constablelaw07.ExprPut", spec := "exprPut", apart := false, narrowed := true }
def ExprPutUptoSaid : Prop := exprPutUptoRow.holds Try.pinned (OpenSpec.upto exprPutSpec)

/-- 'constablelaw07.ExprParting', WHERE WHAT IT READS IS OF BULK AT MOST 1048576: true; the input reads as it did. -/
def exprPartingUptoRow : OpenClaim := { program := "ytconpnagoijacaa", sum := "8c8b79ec8649585aa897c8216ce4c8e1d0dc622dfc7d724eeaecd2894a0fffa1", func := "constable/constablelaw07.ExprParting", spec := "exprParting", apart := false, narrowed := true }
def ExprPartingUptoSaid : Prop := exprPartingUptoRow.holds Try.pinned (OpenSpec.upto exprPartingSpec)

/-- 'constablelaw07.ExprBad', WHERE WHAT IT READS IS OF BULK AT MOST 1048576: true; the input reads as it did. -/
def exprBadUptoRow : OpenClaim := { program := "ytconpnagoijacaa", sum := "8c8b79ec8649585aa897c8216ce4c8e1d0dc622dfc7d724eeaecd2894a0fffa1", func := "constable/constablelaw07.ExprBad", spec := "exprBad", apart := false, narrowed := true }
def ExprBadUptoSaid : Prop := exprBadUptoRow.holds Try.pinned (OpenSpec.upto exprBadSpec)

/-- 'constablelaw07.ExprSums', WHERE WHAT IT READS IS OF BULK AT MOST 1048576: true; the input reads as it did. -/
def exprSumsUptoRow : OpenClaim := { program := "ytconpnagoijacaa", sum := "8c8b79ec8649585aa897c8216ce4c8e1d0dc622dfc7d724eeaecd2894a0fffa1", func := "constable/constablelaw07.ExprSums", spec := "exprSums", apart := false, narrowed := true }
def ExprSumsUptoSaid : Prop := exprSumsUptoRow.holds Try.pinned (OpenSpec.upto exprSumsSpec)

end Rows
end Go.Proofs.Ytconpnagoijacaa
