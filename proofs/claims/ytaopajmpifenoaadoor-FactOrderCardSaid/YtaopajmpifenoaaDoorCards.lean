/-
  DERIVED. GIVEN WITH THE SEED: THE CARDS: each row of YtaopajmpifenoaaDoorRows.lean that lists a variable, with what it lists TIED to the program's text (the seventh form; the later family's looks); each row that meets fmt, with fmt's text TOLD by the authors' own Lean function (tested against real Go, not proved from fmt's source: count such statements apart). THE CARD IS WHAT COUNTS. Prove the row's statement (the work); the ties are given (YtaopajmpifenoaaDoorTie.lean); close each card by the builder's one call (the guide's Derived/Test/ToyasCard.lean, 'card_holds'). Laid BY PROGRAM, IN A SANDBOX (cutbox-door.mjs). By AI agents, Wed Nov 11 2026. No macro, syntax, notation, axiom, sorry.
-/
import Derived.Test.YtaopajmpifenoaaDoorRows
import GoSem.ClaimSeven
namespace Go.Proofs.YtaopajmpifenoaaDoor
namespace Rows

/-- THE TIED CARD OF 'constablelaw03.FactExact'. -/
def factExactCard : Claim7 := { stood := { row := factExactRow, standIns := [], harness := (true, "4fc6752917d6d942e2e4e1cd53b5bcc76377a25198d57ec2e5fdb3d72cc40ad0"), looks := true }, kinds := [], alts := [], laidByText := true, laidKinds := [.data, .data, .data], laidTests := true, laidLooks := .later }
def FactExactCardSaid : Prop := Claim7.holds Tryd.pinned (.plain (OpenSpec.ofChange factExactSpec)) factExactCard

/-- THE TIED CARD OF 'constablelaw03.FactOrder'. -/
def factOrderCard : Claim7 := { stood := { row := factOrderRow, standIns := [], harness := (true, "4fc6752917d6d942e2e4e1cd53b5bcc76377a25198d57ec2e5fdb3d72cc40ad0"), looks := true }, kinds := [], alts := [], laidByText := true, laidKinds := [.data, .data, .data], laidTests := true, laidLooks := .later }
def FactOrderCardSaid : Prop := Claim7.holds Tryd.pinned (.plain (OpenSpec.ofChange factOrderSpec)) factOrderCard

/-- THE TIED CARD OF 'constablelaw03.FactNames'. -/
def factNamesCard : Claim7 := { stood := { row := factNamesRow, standIns := [], harness := (true, "4fc6752917d6d942e2e4e1cd53b5bcc76377a25198d57ec2e5fdb3d72cc40ad0"), looks := true }, kinds := [], alts := [], laidByText := true, laidKinds := [.data, .data, .data], laidTests := true, laidLooks := .later }
def FactNamesCardSaid : Prop := Claim7.holds Tryd.pinned (.plain (OpenSpec.ofChange factNamesSpec)) factNamesCard

/-- THE TIED CARD OF 'constablelaw01.ValExact'. -/
def valExactCard : Claim7 := { stood := { row := valExactRow, standIns := [], harness := (true, "4fc6752917d6d942e2e4e1cd53b5bcc76377a25198d57ec2e5fdb3d72cc40ad0"), looks := true }, kinds := [], alts := [], laidByText := true, laidKinds := [.data, .data, .data, .sentinel, .sentinel], laidTests := true, laidLooks := .later }
def ValExactCardSaid : Prop := Claim7.holds Tryd.pinned (.plain (OpenSpec.ofChange valExactSpec)) valExactCard

/-- THE TIED CARD OF 'constablelaw01.ValBack'. -/
def valBackCard : Claim7 := { stood := { row := valBackRow, standIns := [], harness := (true, "4fc6752917d6d942e2e4e1cd53b5bcc76377a25198d57ec2e5fdb3d72cc40ad0"), looks := true }, kinds := [], alts := [], laidByText := true, laidKinds := [.data, .data, .data, .sentinel, .sentinel], laidTests := true, laidLooks := .later }
def ValBackCardSaid : Prop := Claim7.holds Tryd.pinned (.plain (OpenSpec.ofChange valBackSpec)) valBackCard

/-- THE TIED CARD OF 'constablelaw01.ValOrder'. -/
def valOrderCard : Claim7 := { stood := { row := valOrderRow, standIns := [], harness := (true, "4fc6752917d6d942e2e4e1cd53b5bcc76377a25198d57ec2e5fdb3d72cc40ad0"), looks := true }, kinds := [], alts := [], laidByText := true, laidKinds := [.data, .data, .data, .sentinel, .sentinel], laidTests := true, laidLooks := .later }
def ValOrderCardSaid : Prop := Claim7.holds Tryd.pinned (.plain (OpenSpec.ofChange valOrderSpec)) valOrderCard

/-- THE TIED CARD OF 'constablelaw01.ValNumbers'. -/
def valNumbersCard : Claim7 := { stood := { row := valNumbersRow, standIns := [], harness := (true, "4fc6752917d6d942e2e4e1cd53b5bcc76377a25198d57ec2e5fdb3d72cc40ad0"), looks := true }, kinds := [], alts := [], laidByText := true, laidKinds := [.data, .data, .data, .sentinel, .sentinel], laidTests := true, laidLooks := .later }
def ValNumbersCardSaid : Prop := Claim7.holds Tryd.pinned (.plain (OpenSpec.ofChange valNumbersSpec)) valNumbersCard

/-- THE TIED CARD OF 'constablelaw01.ValStrings'. -/
def valStringsCard : Claim7 := { stood := { row := valStringsRow, standIns := [], harness := (true, "4fc6752917d6d942e2e4e1cd53b5bcc76377a25198d57ec2e5fdb3d72cc40ad0"), looks := true }, kinds := [], alts := [], laidByText := true, laidKinds := [.data, .data, .data, .sentinel, .sentinel], laidTests := true, laidLooks := .later }
def ValStringsCardSaid : Prop := Claim7.holds Tryd.pinned (.plain (OpenSpec.ofChange valStringsSpec)) valStringsCard

/-- THE SECOND FORM's CARD OF 'constablelaw03.FactExact'. -/
def factExactUptoCard : Claim7 := { stood := { row := factExactUptoRow, standIns := [], harness := (true, "4fc6752917d6d942e2e4e1cd53b5bcc76377a25198d57ec2e5fdb3d72cc40ad0"), looks := true }, kinds := [], alts := [], laidByText := true, laidKinds := [.data, .data, .data], laidTests := true, laidLooks := .later }
def FactExactUptoCardSaid : Prop := Claim7.holds Tryd.pinned (.plain (OpenSpec.upto factExactSpec)) factExactUptoCard

/-- THE SECOND FORM's CARD OF 'constablelaw03.FactOrder'. -/
def factOrderUptoCard : Claim7 := { stood := { row := factOrderUptoRow, standIns := [], harness := (true, "4fc6752917d6d942e2e4e1cd53b5bcc76377a25198d57ec2e5fdb3d72cc40ad0"), looks := true }, kinds := [], alts := [], laidByText := true, laidKinds := [.data, .data, .data], laidTests := true, laidLooks := .later }
def FactOrderUptoCardSaid : Prop := Claim7.holds Tryd.pinned (.plain (OpenSpec.upto factOrderSpec)) factOrderUptoCard

/-- THE SECOND FORM's CARD OF 'constablelaw03.FactNames'. -/
def factNamesUptoCard : Claim7 := { stood := { row := factNamesUptoRow, standIns := [], harness := (true, "4fc6752917d6d942e2e4e1cd53b5bcc76377a25198d57ec2e5fdb3d72cc40ad0"), looks := true }, kinds := [], alts := [], laidByText := true, laidKinds := [.data, .data, .data], laidTests := true, laidLooks := .later }
def FactNamesUptoCardSaid : Prop := Claim7.holds Tryd.pinned (.plain (OpenSpec.upto factNamesSpec)) factNamesUptoCard

/-- THE SECOND FORM's CARD OF 'constablelaw01.ValExact'. -/
def valExactUptoCard : Claim7 := { stood := { row := valExactUptoRow, standIns := [], harness := (true, "4fc6752917d6d942e2e4e1cd53b5bcc76377a25198d57ec2e5fdb3d72cc40ad0"), looks := true }, kinds := [], alts := [], laidByText := true, laidKinds := [.data, .data, .data, .sentinel, .sentinel], laidTests := true, laidLooks := .later }
def ValExactUptoCardSaid : Prop := Claim7.holds Tryd.pinned (.plain (OpenSpec.upto valExactSpec)) valExactUptoCard

/-- THE SECOND FORM's CARD OF 'constablelaw01.ValBack'. -/
def valBackUptoCard : Claim7 := { stood := { row := valBackUptoRow, standIns := [], harness := (true, "4fc6752917d6d942e2e4e1cd53b5bcc76377a25198d57ec2e5fdb3d72cc40ad0"), looks := true }, kinds := [], alts := [], laidByText := true, laidKinds := [.data, .data, .data, .sentinel, .sentinel], laidTests := true, laidLooks := .later }
def ValBackUptoCardSaid : Prop := Claim7.holds Tryd.pinned (.plain (OpenSpec.upto valBackSpec)) valBackUptoCard

/-- THE SECOND FORM's CARD OF 'constablelaw01.ValOrder'. -/
def valOrderUptoCard : Claim7 := { stood := { row := valOrderUptoRow, standIns := [], harness := (true, "4fc6752917d6d942e2e4e1cd53b5bcc76377a25198d57ec2e5fdb3d72cc40ad0"), looks := true }, kinds := [], alts := [], laidByText := true, laidKinds := [.data, .data, .data, .sentinel, .sentinel], laidTests := true, laidLooks := .later }
def ValOrderUptoCardSaid : Prop := Claim7.holds Tryd.pinned (.plain (OpenSpec.upto valOrderSpec)) valOrderUptoCard

/-- THE SECOND FORM's CARD OF 'constablelaw01.ValNumbers'. -/
def valNumbersUptoCard : Claim7 := { stood := { row := valNumbersUptoRow, standIns := [], harness := (true, "4fc6752917d6d942e2e4e1cd53b5bcc76377a25198d57ec2e5fdb3d72cc40ad0"), looks := true }, kinds := [], alts := [], laidByText := true, laidKinds := [.data, .data, .data, .sentinel, .sentinel], laidTests := true, laidLooks := .later }
def ValNumbersUptoCardSaid : Prop := Claim7.holds Tryd.pinned (.plain (OpenSpec.upto valNumbersSpec)) valNumbersUptoCard

/-- THE SECOND FORM's CARD OF 'constablelaw01.ValStrings'. -/
def valStringsUptoCard : Claim7 := { stood := { row := valStringsUptoRow, standIns := [], harness := (true, "4fc6752917d6d942e2e4e1cd53b5bcc76377a25198d57ec2e5fdb3d72cc40ad0"), looks := true }, kinds := [], alts := [], laidByText := true, laidKinds := [.data, .data, .data, .sentinel, .sentinel], laidTests := true, laidLooks := .later }
def ValStringsUptoCardSaid : Prop := Claim7.holds Tryd.pinned (.plain (OpenSpec.upto valStringsSpec)) valStringsUptoCard
end Rows
end Go.Proofs.YtaopajmpifenoaaDoor
