/-
  DERIVED. GIVEN WITH THE SEED: THE CARDS: each row of YtfdopmapaaagoaaGreatDoorRows.lean that lists a variable, with what it lists TIED to the program's text (the seventh form; the later family's looks); each row that meets fmt, with fmt's text TOLD by the authors' own Lean function (tested against real Go, not proved from fmt's source: count such statements apart). THE CARD IS WHAT COUNTS. Prove the row's statement (the work); the ties are given (YtfdopmapaaagoaaGreatDoorTie.lean); close each card by the builder's one call (the guide's Derived/Test/ToyasCard.lean, 'card_holds'). Laid BY PROGRAM, IN A SANDBOX (cutbox-door.mjs). By AI agents, Wed Nov 11 2026. No macro, syntax, notation, axiom, sorry.
-/
import Derived.Test.YtfdopmapaaagoaaGreatDoorRows
import GoSem.ClaimSeven
namespace Go.Proofs.YtfdopmapaaagoaaGreatDoor
namespace Rows

/-- THE TIED CARD OF 'constablelaw14.TraceExact'. -/
def traceExactCard : Claim7 := { stood := { row := traceExactRow, standIns := [], harness := (true, "f8be040ae68293bc07507022844735a8ec62d05814589fc81fbd2576ea770058"), looks := true }, kinds := [], alts := [], laidByText := true, laidKinds := [.data, .data, .data, .data, .sentinel, .sentinel, .pinned], laidTests := true, laidLooks := .later }
def TraceExactCardSaid : Prop := Claim7.holds Tryz.pinned (.plain (OpenSpec.ofChange traceExactSpec)) traceExactCard

/-- THE TIED CARD OF 'constablelaw14.TraceBack'. -/
def traceBackCard : Claim7 := { stood := { row := traceBackRow, standIns := [], harness := (true, "f8be040ae68293bc07507022844735a8ec62d05814589fc81fbd2576ea770058"), looks := true }, kinds := [], alts := [], laidByText := true, laidKinds := [.data, .data, .data, .data, .sentinel, .sentinel, .pinned], laidTests := true, laidLooks := .later }
def TraceBackCardSaid : Prop := Claim7.holds Tryz.pinned (.plain (OpenSpec.ofChange traceBackSpec)) traceBackCard

/-- THE TIED CARD OF 'constablelaw14.TraceJoin'. -/
def traceJoinCard : Claim7 := { stood := { row := traceJoinRow, standIns := [], harness := (true, "f8be040ae68293bc07507022844735a8ec62d05814589fc81fbd2576ea770058"), looks := true }, kinds := [], alts := [], laidByText := true, laidKinds := [.data, .data, .data, .data, .sentinel, .sentinel, .pinned], laidTests := true, laidLooks := .later }
def TraceJoinCardSaid : Prop := Claim7.holds Tryz.pinned (.plain (OpenSpec.ofChange traceJoinSpec)) traceJoinCard

/-- THE TIED CARD OF 'constablelaw14.TracePlaces'. -/
def tracePlacesCard : Claim7 := { stood := { row := tracePlacesRow, standIns := [], harness := (true, "f8be040ae68293bc07507022844735a8ec62d05814589fc81fbd2576ea770058"), looks := true }, kinds := [], alts := [], laidByText := true, laidKinds := [.data, .data, .data, .data, .sentinel, .sentinel, .pinned], laidTests := true, laidLooks := .later }
def TracePlacesCardSaid : Prop := Claim7.holds Tryz.pinned (.plain (OpenSpec.ofChange tracePlacesSpec)) tracePlacesCard

/-- THE TIED CARD OF 'constablelaw12.FormulaParts'. -/
def formulaPartsCard : Claim7 := { stood := { row := formulaPartsRow, standIns := [], harness := (true, "f8be040ae68293bc07507022844735a8ec62d05814589fc81fbd2576ea770058"), looks := true }, kinds := [], alts := [], laidByText := true, laidKinds := [.data, .data, .data, .data, .sentinel, .sentinel, .pinned], laidTests := true, laidLooks := .later }
def FormulaPartsCardSaid : Prop := Claim7.holds Tryz.pinned (.plain (OpenSpec.ofChange formulaPartsSpec)) formulaPartsCard

/-- THE TIED CARD OF 'constablelaw12.FormulaBent'. -/
def formulaBentCard : Claim7 := { stood := { row := formulaBentRow, standIns := [], harness := (true, "f8be040ae68293bc07507022844735a8ec62d05814589fc81fbd2576ea770058"), looks := true }, kinds := [], alts := [], laidByText := true, laidKinds := [.data, .data, .data, .data, .sentinel, .sentinel, .pinned], laidTests := true, laidLooks := .later }
def FormulaBentCardSaid : Prop := Claim7.holds Tryz.pinned (.plain (OpenSpec.ofChange formulaBentSpec)) formulaBentCard

/-- THE TIED CARD OF 'constablelaw12.FormulaExact'. -/
def formulaExactCard : Claim7 := { stood := { row := formulaExactRow, standIns := [], harness := (true, "f8be040ae68293bc07507022844735a8ec62d05814589fc81fbd2576ea770058"), looks := true }, kinds := [], alts := [], laidByText := true, laidKinds := [.data, .data, .data, .data, .sentinel, .sentinel, .pinned], laidTests := true, laidLooks := .later }
def FormulaExactCardSaid : Prop := Claim7.holds Tryz.pinned (.plain (OpenSpec.ofChange formulaExactSpec)) formulaExactCard

/-- THE TIED CARD OF 'constablelaw12.FormulaBack'. -/
def formulaBackCard : Claim7 := { stood := { row := formulaBackRow, standIns := [], harness := (true, "f8be040ae68293bc07507022844735a8ec62d05814589fc81fbd2576ea770058"), looks := true }, kinds := [], alts := [], laidByText := true, laidKinds := [.data, .data, .data, .data, .sentinel, .sentinel, .pinned], laidTests := true, laidLooks := .later }
def FormulaBackCardSaid : Prop := Claim7.holds Tryz.pinned (.plain (OpenSpec.ofChange formulaBackSpec)) formulaBackCard

/-- THE TIED CARD OF 'constablelaw11.RulesExact'. -/
def rulesExactCard : Claim7 := { stood := { row := rulesExactRow, standIns := [], harness := (true, "f8be040ae68293bc07507022844735a8ec62d05814589fc81fbd2576ea770058"), looks := true }, kinds := [], alts := [], laidByText := true, laidKinds := [.data, .data, .data, .data, .sentinel, .sentinel, .pinned], laidTests := true, laidLooks := .later }
def RulesExactCardSaid : Prop := Claim7.holds Tryz.pinned (.plain (OpenSpec.ofChange rulesExactSpec)) rulesExactCard

/-- THE TIED CARD OF 'constablelaw11.RulesBack'. -/
def rulesBackCard : Claim7 := { stood := { row := rulesBackRow, standIns := [], harness := (true, "f8be040ae68293bc07507022844735a8ec62d05814589fc81fbd2576ea770058"), looks := true }, kinds := [], alts := [], laidByText := true, laidKinds := [.data, .data, .data, .data, .sentinel, .sentinel, .pinned], laidTests := true, laidLooks := .later }
def RulesBackCardSaid : Prop := Claim7.holds Tryz.pinned (.plain (OpenSpec.ofChange rulesBackSpec)) rulesBackCard

/-- THE TIED CARD OF 'constablelaw11.RulesTwo'. -/
def rulesTwoCard : Claim7 := { stood := { row := rulesTwoRow, standIns := [], harness := (true, "f8be040ae68293bc07507022844735a8ec62d05814589fc81fbd2576ea770058"), looks := true }, kinds := [], alts := [], laidByText := true, laidKinds := [.data, .data, .data, .data, .sentinel, .sentinel, .pinned], laidTests := true, laidLooks := .later }
def RulesTwoCardSaid : Prop := Claim7.holds Tryz.pinned (.plain (OpenSpec.ofChange rulesTwoSpec)) rulesTwoCard

/-- THE TIED CARD OF 'constablelaw11.RulesBent'. -/
def rulesBentCard : Claim7 := { stood := { row := rulesBentRow, standIns := [], harness := (true, "f8be040ae68293bc07507022844735a8ec62d05814589fc81fbd2576ea770058"), looks := true }, kinds := [], alts := [], laidByText := true, laidKinds := [.data, .data, .data, .data, .sentinel, .sentinel, .pinned], laidTests := true, laidLooks := .later }
def RulesBentCardSaid : Prop := Claim7.holds Tryz.pinned (.plain (OpenSpec.ofChange rulesBentSpec)) rulesBentCard

/-- THE SECOND FORM's CARD OF 'constablelaw14.TraceExact'. -/
def traceExactUptoCard : Claim7 := { stood := { row := traceExactUptoRow, standIns := [], harness := (true, "f8be040ae68293bc07507022844735a8ec62d05814589fc81fbd2576ea770058"), looks := true }, kinds := [], alts := [], laidByText := true, laidKinds := [.data, .data, .data, .data, .sentinel, .sentinel, .pinned], laidTests := true, laidLooks := .later }
def TraceExactUptoCardSaid : Prop := Claim7.holds Tryz.pinned (.plain (OpenSpec.upto traceExactSpec)) traceExactUptoCard

/-- THE SECOND FORM's CARD OF 'constablelaw14.TraceBack'. -/
def traceBackUptoCard : Claim7 := { stood := { row := traceBackUptoRow, standIns := [], harness := (true, "f8be040ae68293bc07507022844735a8ec62d05814589fc81fbd2576ea770058"), looks := true }, kinds := [], alts := [], laidByText := true, laidKinds := [.data, .data, .data, .data, .sentinel, .sentinel, .pinned], laidTests := true, laidLooks := .later }
def TraceBackUptoCardSaid : Prop := Claim7.holds Tryz.pinned (.plain (OpenSpec.upto traceBackSpec)) traceBackUptoCard

/-- THE SECOND FORM's CARD OF 'constablelaw14.TraceJoin'. -/
def traceJoinUptoCard : Claim7 := { stood := { row := traceJoinUptoRow, standIns := [], harness := (true, "f8be040ae68293bc07507022844735a8ec62d05814589fc81fbd2576ea770058"), looks := true }, kinds := [], alts := [], laidByText := true, laidKinds := [.data, .data, .data, .data, .sentinel, .sentinel, .pinned], laidTests := true, laidLooks := .later }
def TraceJoinUptoCardSaid : Prop := Claim7.holds Tryz.pinned (.plain (OpenSpec.upto traceJoinSpec)) traceJoinUptoCard

/-- THE SECOND FORM's CARD OF 'constablelaw14.TracePlaces'. -/
def tracePlacesUptoCard : Claim7 := { stood := { row := tracePlacesUptoRow, standIns := [], harness := (true, "f8be040ae68293bc07507022844735a8ec62d05814589fc81fbd2576ea770058"), looks := true }, kinds := [], alts := [], laidByText := true, laidKinds := [.data, .data, .data, .data, .sentinel, .sentinel, .pinned], laidTests := true, laidLooks := .later }
def TracePlacesUptoCardSaid : Prop := Claim7.holds Tryz.pinned (.plain (OpenSpec.upto tracePlacesSpec)) tracePlacesUptoCard

/-- THE SECOND FORM's CARD OF 'constablelaw12.FormulaParts'. -/
def formulaPartsUptoCard : Claim7 := { stood := { row := formulaPartsUptoRow, standIns := [], harness := (true, "f8be040ae68293bc07507022844735a8ec62d05814589fc81fbd2576ea770058"), looks := true }, kinds := [], alts := [], laidByText := true, laidKinds := [.data, .data, .data, .data, .sentinel, .sentinel, .pinned], laidTests := true, laidLooks := .later }
def FormulaPartsUptoCardSaid : Prop := Claim7.holds Tryz.pinned (.plain (OpenSpec.upto formulaPartsSpec)) formulaPartsUptoCard

/-- THE SECOND FORM's CARD OF 'constablelaw12.FormulaBent'. -/
def formulaBentUptoCard : Claim7 := { stood := { row := formulaBentUptoRow, standIns := [], harness := (true, "f8be040ae68293bc07507022844735a8ec62d05814589fc81fbd2576ea770058"), looks := true }, kinds := [], alts := [], laidByText := true, laidKinds := [.data, .data, .data, .data, .sentinel, .sentinel, .pinned], laidTests := true, laidLooks := .later }
def FormulaBentUptoCardSaid : Prop := Claim7.holds Tryz.pinned (.plain (OpenSpec.upto formulaBentSpec)) formulaBentUptoCard

/-- THE SECOND FORM's CARD OF 'constablelaw12.FormulaExact'. -/
def formulaExactUptoCard : Claim7 := { stood := { row := formulaExactUptoRow, standIns := [], harness := (true, "f8be040ae68293bc07507022844735a8ec62d05814589fc81fbd2576ea770058"), looks := true }, kinds := [], alts := [], laidByText := true, laidKinds := [.data, .data, .data, .data, .sentinel, .sentinel, .pinned], laidTests := true, laidLooks := .later }
def FormulaExactUptoCardSaid : Prop := Claim7.holds Tryz.pinned (.plain (OpenSpec.upto formulaExactSpec)) formulaExactUptoCard

/-- THE SECOND FORM's CARD OF 'constablelaw12.FormulaBack'. -/
def formulaBackUptoCard : Claim7 := { stood := { row := formulaBackUptoRow, standIns := [], harness := (true, "f8be040ae68293bc07507022844735a8ec62d05814589fc81fbd2576ea770058"), looks := true }, kinds := [], alts := [], laidByText := true, laidKinds := [.data, .data, .data, .data, .sentinel, .sentinel, .pinned], laidTests := true, laidLooks := .later }
def FormulaBackUptoCardSaid : Prop := Claim7.holds Tryz.pinned (.plain (OpenSpec.upto formulaBackSpec)) formulaBackUptoCard

/-- THE SECOND FORM's CARD OF 'constablelaw11.RulesExact'. -/
def rulesExactUptoCard : Claim7 := { stood := { row := rulesExactUptoRow, standIns := [], harness := (true, "f8be040ae68293bc07507022844735a8ec62d05814589fc81fbd2576ea770058"), looks := true }, kinds := [], alts := [], laidByText := true, laidKinds := [.data, .data, .data, .data, .sentinel, .sentinel, .pinned], laidTests := true, laidLooks := .later }
def RulesExactUptoCardSaid : Prop := Claim7.holds Tryz.pinned (.plain (OpenSpec.upto rulesExactSpec)) rulesExactUptoCard

/-- THE SECOND FORM's CARD OF 'constablelaw11.RulesBack'. -/
def rulesBackUptoCard : Claim7 := { stood := { row := rulesBackUptoRow, standIns := [], harness := (true, "f8be040ae68293bc07507022844735a8ec62d05814589fc81fbd2576ea770058"), looks := true }, kinds := [], alts := [], laidByText := true, laidKinds := [.data, .data, .data, .data, .sentinel, .sentinel, .pinned], laidTests := true, laidLooks := .later }
def RulesBackUptoCardSaid : Prop := Claim7.holds Tryz.pinned (.plain (OpenSpec.upto rulesBackSpec)) rulesBackUptoCard

/-- THE SECOND FORM's CARD OF 'constablelaw11.RulesTwo'. -/
def rulesTwoUptoCard : Claim7 := { stood := { row := rulesTwoUptoRow, standIns := [], harness := (true, "f8be040ae68293bc07507022844735a8ec62d05814589fc81fbd2576ea770058"), looks := true }, kinds := [], alts := [], laidByText := true, laidKinds := [.data, .data, .data, .data, .sentinel, .sentinel, .pinned], laidTests := true, laidLooks := .later }
def RulesTwoUptoCardSaid : Prop := Claim7.holds Tryz.pinned (.plain (OpenSpec.upto rulesTwoSpec)) rulesTwoUptoCard

/-- THE SECOND FORM's CARD OF 'constablelaw11.RulesBent'. -/
def rulesBentUptoCard : Claim7 := { stood := { row := rulesBentUptoRow, standIns := [], harness := (true, "f8be040ae68293bc07507022844735a8ec62d05814589fc81fbd2576ea770058"), looks := true }, kinds := [], alts := [], laidByText := true, laidKinds := [.data, .data, .data, .data, .sentinel, .sentinel, .pinned], laidTests := true, laidLooks := .later }
def RulesBentUptoCardSaid : Prop := Claim7.holds Tryz.pinned (.plain (OpenSpec.upto rulesBentSpec)) rulesBentUptoCard
end Rows
end Go.Proofs.YtfdopmapaaagoaaGreatDoor
