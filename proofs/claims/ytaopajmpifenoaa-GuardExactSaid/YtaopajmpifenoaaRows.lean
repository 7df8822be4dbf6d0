/-
  No cell of these rows narrows 'for every input' (looked for: loops, veiled, ifaces, maps, wideKeys, modest, calm, conditions, laid).
  DERIVED. THE GIVEN ROWS OF THIS SEAT. 4 by the template 'for every input the law returns true; each argument reads behind the call as it read before'; 0 by the template 'total and deterministic' (their statements: YtaopajmpifenoaaTotals.lean).
  GIVEN WITH THE SEED: the statements are not yours to turn. If you find one false, say at which input.
  Laid BY PROGRAM, IN A SANDBOX (cutbox-rows.mjs): the forced cells as the released guide's own fill.sh prints them over the translation 2df4539260e6d687… (all of the seat's roots in one cut). By AI agents, Wed Nov 11 2026. No macro, syntax, notation, axiom, sorry.
-/
import Derived.Test.YtaopajmpifenoaaChecked
import GoSem.Claim
import GoSem.ClaimJoined
import GoSem.ClaimMapViews
import Derived.JoinedTies
import Derived.KernelRfl
namespace Go.Proofs.Ytaopajmpifenoaa
/- THE CELL 'sum', in the pinned program and in every row, IS THE sha256 OF THE DUMP (.gsa) THAT YtaopajmpifenoaaProg.lean LOADS. Nothing in Lean hashes anything: it is a label: what it is worth is what the hold of that sum in a sandbox is worth. -/
noncomputable def Try.pinned : Pinned := { name := "ytaopajmpifenoaa", sum := "2df4539260e6d68790631fcf2ebb3e289ce386c8dc92f479ffe279f45a9a415a", checked := Try.checked }
namespace Rows
def none {H : Type} : Left H := { results := [], args := [] }

/-- 'constablelaw08.GuardExact': WHATEVER THE INPUT: true; the input reads as it did. -/
def guardExactSpec : ChangeSpec := { name := "guardExact", fn := fun _ => fun
  | [d1, d2, d3, d4, d5] => { results := [.lit (.bool true)], args := [d1, d2, d3, d4, d5] }
  | _ => none }
def guardExactRow : OpenClaim := { program := "ytaopajmpifenoaa", sum := "2df4539260e6d68790631fcf2ebb3e289ce386c8dc92f479ffe279f45a9a415a", func := "constable/constablelaw08.GuardExact", spec := "guardExact", inPlace := ["internal/bytealg.abigen_runtime_cmpstring"], apart := false }
def GuardExactSaid : Prop := guardExactRow.holds Try.pinned (OpenSpec.ofChange guardExactSpec)

/-- ITS FALSE NEIGHBOUR: 'it returns false'. Refute it at one input. -/
def guardExactWrong : ChangeSpec := { name := "guardExact", fn := fun _ => fun
  | [d1, d2, d3, d4, d5] => { results := [.lit (.bool false)], args := [d1, d2, d3, d4, d5] }
  | _ => none }
def GuardExactWrongFalsely : Prop := guardExactRow.holds Try.pinned (OpenSpec.ofChange guardExactWrong)

/-- 'constablelaw08.GuardOne': WHATEVER THE INPUT: true; the input reads as it did. -/
def guardOneSpec : ChangeSpec := { name := "guardOne", fn := fun _ => fun
  | [d1, d2] => { results := [.lit (.bool true)], args := [d1, d2] }
  | _ => none }
def guardOneRow : OpenClaim := { program := "ytaopajmpifenoaa", sum := "2df4539260e6d68790631fcf2ebb3e289ce386c8dc92f479ffe279f45a9a415a", func := "constable/constablelaw08.GuardOne", spec := "guardOne", inPlace := ["internal/bytealg.abigen_runtime_cmpstring"], apart := false }
def GuardOneSaid : Prop := guardOneRow.holds Try.pinned (OpenSpec.ofChange guardOneSpec)

/-- ITS FALSE NEIGHBOUR: 'it returns false'. Refute it at one input. -/
def guardOneWrong : ChangeSpec := { name := "guardOne", fn := fun _ => fun
  | [d1, d2] => { results := [.lit (.bool false)], args := [d1, d2] }
  | _ => none }
def GuardOneWrongFalsely : Prop := guardOneRow.holds Try.pinned (OpenSpec.ofChange guardOneWrong)

/-- 'constablelaw08.GuardParts': WHATEVER THE INPUT: true; the input reads as it did. -/
def guardPartsSpec : ChangeSpec := { name := "guardParts", fn := fun _ => fun
  | [d1, d2, d3, d4] => { results := [.lit (.bool true)], args := [d1, d2, d3, d4] }
  | _ => none }
def guardPartsRow : OpenClaim := { program := "ytaopajmpifenoaa", sum := "2df4539260e6d68790631fcf2ebb3e289ce386c8dc92f479ffe279f45a9a415a", func := "constable/constablelaw08.GuardParts", spec := "guardParts", inPlace := ["internal/bytealg.abigen_runtime_cmpstring"], apart := false }
def GuardPartsSaid : Prop := guardPartsRow.holds Try.pinned (OpenSpec.ofChange guardPartsSpec)

/-- ITS FALSE NEIGHBOUR: 'it returns false'. Refute it at one input. -/
def guardPartsWrong : ChangeSpec := { name := "guardParts", fn := fun _ => fun
  | [d1, d2, d3, d4] => { results := [.lit (.bool false)], args := [d1, d2, d3, d4] }
  | _ => none }
def GuardPartsWrongFalsely : Prop := guardPartsRow.holds Try.pinned (OpenSpec.ofChange guardPartsWrong)

/-- 'constablelaw08.GuardNumbers': WHATEVER THE INPUT: true; the input reads as it did. -/
def guardNumbersSpec : ChangeSpec := { name := "guardNumbers", fn := fun _ => fun
  | [d1, d2, d3, d4] => { results := [.lit (.bool true)], args := [d1, d2, d3, d4] }
  | _ => none }
def guardNumbersRow : OpenClaim := { program := "ytaopajmpifenoaa", sum := "2df4539260e6d68790631fcf2ebb3e289ce386c8dc92f479ffe279f45a9a415a", func := "constable/constablelaw08.GuardNumbers", spec := "guardNumbers", inPlace := ["internal/bytealg.abigen_runtime_cmpstring"], apart := false }
def GuardNumbersSaid : Prop := guardNumbersRow.holds Try.pinned (OpenSpec.ofChange guardNumbersSpec)

/-- ITS FALSE NEIGHBOUR: 'it returns false'. Refute it at one input. -/
def guardNumbersWrong : ChangeSpec := { name := "guardNumbers", fn := fun _ => fun
  | [d1, d2, d3, d4] => { results := [.lit (.bool false)], args := [d1, d2, d3, d4] }
  | _ => none }
def GuardNumbersWrongFalsely : Prop := guardNumbersRow.holds Try.pinned (OpenSpec.ofChange guardNumbersWrong)

/- THE SECOND FORM. 'bulk': how many values and letters a reading holds, each counted each time it is reached (what is shared counts as often as it is met; a slice's spare places count too). A statement '..UptoSaid' is the law's where the arguments, and the package variables that the reading takes, are together of bulk at most 1048576: NARROWER than '..Said'. Prove '..Said' where nothing that the law and all that it calls make is longer than what came in: it says more and counts as full. Else prove '..UptoSaid'. A law counts once. -/
mutual
def uptoBulk {H : Type} : DataW H → Nat
  | .lit (.string bytes) => bytes.length + 1
  | .lit _ => 1
  | .nil => 1
  | .ptr d => uptoBulk d + 1
  | .slice elems spare => uptoBulkAll elems + uptoBulkAll spare + 1
  | .agg parts => uptoBulkAll parts + 1
  | .iface _ d => uptoBulk d + 1
  | .map entries => uptoBulkEntries entries + 1
  | .held _ => 1
def uptoBulkAll {H : Type} : List (DataW H) → Nat
  | [] => 0
  | d :: r => uptoBulk d + uptoBulkAll r
def uptoBulkEntries {H : Type} : List (Lit × DataW H) → Nat
  | [] => 0
  | x :: r => uptoBulkEntry x + uptoBulkEntries r
def uptoBulkEntry {H : Type} : Lit × DataW H → Nat
  | (.string bytes, d) => bytes.length + uptoBulk d + 1
  | (_, d) => uptoBulk d + 1
 end
def uptoSmall : (H : Type) → List (DataW H) → Bool := fun _ ds => decide (uptoBulkAll ds ≤ 1048576)
def OpenSpec.upto (s : _root_.Go.ChangeSpec) : _root_.Go.OpenSpec := { _root_.Go.OpenSpec.ofChange s with cond := some uptoSmall }

/-- 'constablelaw08.GuardExact', WHERE WHAT IT READS IS OF BULK AT MOST 1048576: true; the input reads as it did. -/
def guardExactUptoRow : OpenClaim := { program := "ytaopajmpifenoaa", sum := "2df4539260e6d68790631fcf2ebb3e289ce386c8dc92f479ffe279f45a9a415a", func := "constable/constablelaw08.GuardExact", spec := "guardExact", inPlace := ["internal/bytealg.abigen_runtime_cmpstring"], apart := false, narrowed := true }
def GuardExactUptoSaid : Prop := guardExactUptoRow.holds Try.pinned (OpenSpec.upto guardExactSpec)

/-- 'constablelaw08.GuardOne', WHERE WHAT IT READS IS OF BULK AT MOST 1048576: true; the input reads as it did. -/
def guardOneUptoRow : OpenClaim := { program := "ytaopajmpifenoaa", sum := "2df4539260e6d68790631fcf2ebb3e289ce386c8dc92f479ffe279f45a9a415a", func := "constable/constablelaw08.GuardOne", spec := "guardOne", inPlace := ["internal/bytealg.abigen_runtime_cmpstring"], apart := false, narrowed := true }
def GuardOneUptoSaid : Prop := guardOneUptoRow.holds Try.pinned (OpenSpec.upto guardOneSpec)

/-- 'constablelaw08.GuardParts', WHERE WHAT IT READS IS OF BULK AT MOST 1048576: true; the input reads as it did. -/
def guardPartsUptoRow : OpenClaim := { program := "ytaopajmpifenoaa", sum := "2df4539260e6d68790631fcf2ebb3e289ce386c8dc92f479ffe279f45a9a415a", func := "constable/constablelaw08.GuardParts", spec := "guardParts", inPlace := ["internal/bytealg.abigen_runtime_cmpstring"], apart := false, narrowed := true }
def GuardPartsUptoSaid : Prop := guardPartsUptoRow.holds Try.pinned (OpenSpec.upto guardPartsSpec)

/-- 'constablelaw08.GuardNumbers', WHERE WHAT IT READS IS OF BULK AT MOST 1048576: true; the input reads as it did. -/
def guardNumbersUptoRow : OpenClaim := { program := "ytaopajmpifenoaa", sum := "2df4539260e6d68790631fcf2ebb3e289ce386c8dc92f479ffe279f45a9a415a", func := "constable/constablelaw08.GuardNumbers", spec := "guardNumbers", inPlace := ["internal/bytealg.abigen_runtime_cmpstring"], apart := false, narrowed := true }
def GuardNumbersUptoSaid : Prop := guardNumbersUptoRow.holds Try.pinned (OpenSpec.upto guardNumbersSpec)

end Rows
end Go.Proofs.Ytaopajmpifenoaa
