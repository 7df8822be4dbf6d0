/-
  DERIVED. GIVEN WITH THE SEED: THE CARDS: each row of YtefolkppcdjbpaaGreatDoorRows.lean that lists a variable, with what it lists TIED to the program's text (the seventh form; the later family's looks); each row that meets fmt, with fmt's text TOLD by the authors' own Lean function (tested against real Go, not proved from fmt's source: count such statements apart). THE CARD IS WHAT COUNTS. Prove the row's statement (the work); the ties are given (YtefolkppcdjbpaaGreatDoorTie.lean); close each card by the builder's one call (the guide's Derived/Test/ToyasCard.lean, 'card_holds'). Laid BY PROGRAM, IN A SANDBOX (cutbox-door.mjs). By AI agents, Wed Nov 11 2026. No macro, syntax, notation, axiom, sorry.
-/
import Derived.Test.YtefolkppcdjbpaaGreatDoorRows
import GoSem.ClaimSeven
namespace Go.Proofs.YtefolkppcdjbpaaGreatDoor
namespace Rows

/-- THE TIED CARD OF 'constablelaw09.LexExact'. -/
def lexExactCard : Claim7 := { stood := { row := lexExactRow, standIns := [], harness := (true, "d3185e5e7f9efe398e74c1127058878eb688f13d329285b6f6a9b4ad6b0bb595"), looks := true }, kinds := [], alts := [], laidByText := true, laidKinds := [.data, .data, .data, .data, .sentinel, .sentinel, .pinned], laidTests := true, laidLooks := .later }
def LexExactCardSaid : Prop := Claim7.holds Tryz.pinned (.plain (OpenSpec.ofChange lexExactSpec)) lexExactCard

/-- THE TIED CARD OF 'constablelaw10.AtomsBack'. -/
def atomsBackCard : Claim7 := { stood := { row := atomsBackRow, standIns := [], harness := (true, "d3185e5e7f9efe398e74c1127058878eb688f13d329285b6f6a9b4ad6b0bb595"), looks := true }, kinds := [], alts := [], laidByText := true, laidKinds := [.data, .data, .data, .data, .sentinel, .sentinel, .pinned], laidTests := true, laidLooks := .later }
def AtomsBackCardSaid : Prop := Claim7.holds Tryz.pinned (.plain (OpenSpec.ofChange atomsBackSpec)) atomsBackCard

/-- THE TIED CARD OF 'constablelaw10.AtomsReads'. -/
def atomsReadsCard : Claim7 := { stood := { row := atomsReadsRow, standIns := [], harness := (true, "d3185e5e7f9efe398e74c1127058878eb688f13d329285b6f6a9b4ad6b0bb595"), looks := true }, kinds := [], alts := [], laidByText := true, laidKinds := [.data, .data, .data, .data, .sentinel, .sentinel, .pinned], laidTests := true, laidLooks := .later }
def AtomsReadsCardSaid : Prop := Claim7.holds Tryz.pinned (.plain (OpenSpec.ofChange atomsReadsSpec)) atomsReadsCard

/-- THE TIED CARD OF 'constablelaw10.AtomsBad'. -/
def atomsBadCard : Claim7 := { stood := { row := atomsBadRow, standIns := [], harness := (true, "d3185e5e7f9efe398e74c1127058878eb688f13d329285b6f6a9b4ad6b0bb595"), looks := true }, kinds := [], alts := [], laidByText := true, laidKinds := [.data, .data, .data, .data, .sentinel, .sentinel, .pinned], laidTests := true, laidLooks := .later }
def AtomsBadCardSaid : Prop := Claim7.holds Tryz.pinned (.plain (OpenSpec.ofChange atomsBadSpec)) atomsBadCard

/-- THE TIED CARD OF 'constablelaw10.AtomsWords'. -/
def atomsWordsCard : Claim7 := { stood := { row := atomsWordsRow, standIns := [], harness := (true, "d3185e5e7f9efe398e74c1127058878eb688f13d329285b6f6a9b4ad6b0bb595"), looks := true }, kinds := [], alts := [], laidByText := true, laidKinds := [.data, .data, .data, .data, .sentinel, .sentinel, .pinned], laidTests := true, laidLooks := .later }
def AtomsWordsCardSaid : Prop := Claim7.holds Tryz.pinned (.plain (OpenSpec.ofChange atomsWordsSpec)) atomsWordsCard

/-- THE TIED CARD OF 'constablelaw10.AtomsNested'. -/
def atomsNestedCard : Claim7 := { stood := { row := atomsNestedRow, standIns := [], harness := (true, "d3185e5e7f9efe398e74c1127058878eb688f13d329285b6f6a9b4ad6b0bb595"), looks := true }, kinds := [], alts := [], laidByText := true, laidKinds := [.data, .data, .data, .data, .sentinel, .sentinel, .pinned], laidTests := true, laidLooks := .later }
def AtomsNestedCardSaid : Prop := Claim7.holds Tryz.pinned (.plain (OpenSpec.ofChange atomsNestedSpec)) atomsNestedCard

/-- THE SECOND FORM's CARD OF 'constablelaw09.LexExact'. -/
def lexExactUptoCard : Claim7 := { stood := { row := lexExactUptoRow, standIns := [], harness := (true, "d3185e5e7f9efe398e74c1127058878eb688f13d329285b6f6a9b4ad6b0bb595"), looks := true }, kinds := [], alts := [], laidByText := true, laidKinds := [.data, .data, .data, .data, .sentinel, .sentinel, .pinned], laidTests := true, laidLooks := .later }
def LexExactUptoCardSaid : Prop := Claim7.holds Tryz.pinned (.plain (OpenSpec.upto lexExactSpec)) lexExactUptoCard

/-- THE SECOND FORM's CARD OF 'constablelaw10.AtomsBack'. -/
def atomsBackUptoCard : Claim7 := { stood := { row := atomsBackUptoRow, standIns := [], harness := (true, "d3185e5e7f9efe398e74c1127058878eb688f13d329285b6f6a9b4ad6b0bb595"), looks := true }, kinds := [], alts := [], laidByText := true, laidKinds := [.data, .data, .data, .data, .sentinel, .sentinel, .pinned], laidTests := true, laidLooks := .later }
def AtomsBackUptoCardSaid : Prop := Claim7.holds Tryz.pinned (.plain (OpenSpec.upto atomsBackSpec)) atomsBackUptoCard

/-- THE SECOND FORM's CARD OF 'constablelaw10.AtomsReads'. -/
def atomsReadsUptoCard : Claim7 := { stood := { row := atomsReadsUptoRow, standIns := [], harness := (true, "d3185e5e7f9efe398e74c1127058878eb688f13d329285b6f6a9b4ad6b0bb595"), looks := true }, kinds := [], alts := [], laidByText := true, laidKinds := [.data, .data, .data, .data, .sentinel, .sentinel, .pinned], laidTests := true, laidLooks := .later }
def AtomsReadsUptoCardSaid : Prop := Claim7.holds Tryz.pinned (.plain (OpenSpec.upto atomsReadsSpec)) atomsReadsUptoCard

/-- THE SECOND FORM's CARD OF 'constablelaw10.AtomsBad'. -/
def atomsBadUptoCard : Claim7 := { stood := { row := atomsBadUptoRow, standIns := [], harness := (true, "d3185e5e7f9efe398e74c1127058878eb688f13d329285b6f6a9b4ad6b0bb595"), looks := true }, kinds := [], alts := [], laidByText := true, laidKinds := [.data, .data, .data, .data, .sentinel, .sentinel, .pinned], laidTests := true, laidLooks := .later }
def AtomsBadUptoCardSaid : Prop := Claim7.holds Tryz.pinned (.plain (OpenSpec.upto atomsBadSpec)) atomsBadUptoCard

/-- THE SECOND FORM's CARD OF 'constablelaw10.AtomsWords'. -/
def atomsWordsUptoCard : Claim7 := { stood := { row := atomsWordsUptoRow, standIns := [], harness := (true, "d3185e5e7f9efe398e74c1127058878eb688f13d329285b6f6a9b4ad6b0bb595"), looks := true }, kinds := [], alts := [], laidByText := true, laidKinds := [.data, .data, .data, .data, .sentinel, .sentinel, .pinned], laidTests := true, laidLooks := .later }
def AtomsWordsUptoCardSaid : Prop := Claim7.holds Tryz.pinned (.plain (OpenSpec.upto atomsWordsSpec)) atomsWordsUptoCard

/-- THE SECOND FORM's CARD OF 'constablelaw10.AtomsNested'. -/
def atomsNestedUptoCard : Claim7 := { stood := { row := atomsNestedUptoRow, standIns := [], harness := (true, "d3185e5e7f9efe398e74c1127058878eb688f13d329285b6f6a9b4ad6b0bb595"), looks := true }, kinds := [], alts := [], laidByText := true, laidKinds := [.data, .data, .data, .data, .sentinel, .sentinel, .pinned], laidTests := true, laidLooks := .later }
def AtomsNestedUptoCardSaid : Prop := Claim7.holds Tryz.pinned (.plain (OpenSpec.upto atomsNestedSpec)) atomsNestedUptoCard
end Rows
end Go.Proofs.YtefolkppcdjbpaaGreatDoor
