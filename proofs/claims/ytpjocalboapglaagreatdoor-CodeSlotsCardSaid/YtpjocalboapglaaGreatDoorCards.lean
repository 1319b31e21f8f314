/-
  DERIVED. GIVEN WITH THE SEED: THE CARDS: each row of YtpjocalboapglaaGreatDoorRows.lean that lists a variable, with what it lists TIED to the program's text (the seventh form; the later family's looks); each row that meets fmt, with fmt's text TOLD by the authors' own Lean function (tested against real Go, not proved from fmt's source: count such statements apart). THE CARD IS WHAT COUNTS. Prove the row's statement (the work); the ties are given (YtpjocalboapglaaGreatDoorTie.lean); close each card by the builder's one call (the guide's Derived/Test/ToyasCard.lean, 'card_holds'). Laid BY PROGRAM, IN A SANDBOX (cutbox-door.mjs). By AI agents, Wed Nov 11 2026. No macro, syntax, notation, axiom, sorry.
-/
import Derived.Test.YtpjocalboapglaaGreatDoorRows
import GoSem.ClaimSeven
namespace Go.Proofs.YtpjocalboapglaaGreatDoor
namespace Rows

/-- THE TIED CARD OF 'pleachlaw13.CodeSlots'. -/
def codeSlotsCard : Claim7 := { stood := { row := codeSlotsRow, standIns := [], harness := (true, "45126c8cd7317a281e0ca5dafa728925fdb2d42e8fe86eab0934228e1592e542"), looks := true }, kinds := [], alts := [], laidByText := true, laidKinds := [.data, .data, .data, .sentinel, .sentinel, .widerDeep], laidTests := true, laidLooks := .later }
def CodeSlotsCardSaid : Prop := Claim7.holds Tryz.pinned (.plain (OpenSpec.ofChange codeSlotsSpec)) codeSlotsCard

/-- THE TIED CARD OF 'pleachlaw13.CodeLines'. -/
def codeLinesCard : Claim7 := { stood := { row := codeLinesRow, standIns := [], harness := (true, "45126c8cd7317a281e0ca5dafa728925fdb2d42e8fe86eab0934228e1592e542"), looks := true }, kinds := [], alts := [], laidByText := true, laidKinds := [.data, .data, .data, .sentinel, .sentinel, .widerDeep], laidTests := true, laidLooks := .later }
def CodeLinesCardSaid : Prop := Claim7.holds Tryz.pinned (.plain (OpenSpec.ofChange codeLinesSpec)) codeLinesCard

/-- THE TIED CARD OF 'pleachlaw13.CodeEach'. -/
def codeEachCard : Claim7 := { stood := { row := codeEachRow, standIns := [], harness := (true, "45126c8cd7317a281e0ca5dafa728925fdb2d42e8fe86eab0934228e1592e542"), looks := true }, kinds := [], alts := [], laidByText := true, laidKinds := [.data, .data, .data, .sentinel, .sentinel, .widerDeep], laidTests := true, laidLooks := .later }
def CodeEachCardSaid : Prop := Claim7.holds Tryz.pinned (.plain (OpenSpec.ofChange codeEachSpec)) codeEachCard

/-- THE TIED CARD OF 'pleachlaw13.CodeMore'. -/
def codeMoreCard : Claim7 := { stood := { row := codeMoreRow, standIns := [], harness := (true, "45126c8cd7317a281e0ca5dafa728925fdb2d42e8fe86eab0934228e1592e542"), looks := true }, kinds := [], alts := [], laidByText := true, laidKinds := [.data, .data, .data, .sentinel, .sentinel, .widerDeep], laidTests := true, laidLooks := .later }
def CodeMoreCardSaid : Prop := Claim7.holds Tryz.pinned (.plain (OpenSpec.ofChange codeMoreSpec)) codeMoreCard

/-- THE SECOND FORM's CARD OF 'pleachlaw13.CodeSlots'. -/
def codeSlotsUptoCard : Claim7 := { stood := { row := codeSlotsUptoRow, standIns := [], harness := (true, "45126c8cd7317a281e0ca5dafa728925fdb2d42e8fe86eab0934228e1592e542"), looks := true }, kinds := [], alts := [], laidByText := true, laidKinds := [.data, .data, .data, .sentinel, .sentinel, .widerDeep], laidTests := true, laidLooks := .later }
def CodeSlotsUptoCardSaid : Prop := Claim7.holds Tryz.pinned (.plain (OpenSpec.upto codeSlotsSpec)) codeSlotsUptoCard

/-- THE SECOND FORM's CARD OF 'pleachlaw13.CodeLines'. -/
def codeLinesUptoCard : Claim7 := { stood := { row := codeLinesUptoRow, standIns := [], harness := (true, "45126c8cd7317a281e0ca5dafa728925fdb2d42e8fe86eab0934228e1592e542"), looks := true }, kinds := [], alts := [], laidByText := true, laidKinds := [.data, .data, .data, .sentinel, .sentinel, .widerDeep], laidTests := true, laidLooks := .later }
def CodeLinesUptoCardSaid : Prop := Claim7.holds Tryz.pinned (.plain (OpenSpec.upto codeLinesSpec)) codeLinesUptoCard

/-- THE SECOND FORM's CARD OF 'pleachlaw13.CodeEach'. -/
def codeEachUptoCard : Claim7 := { stood := { row := codeEachUptoRow, standIns := [], harness := (true, "45126c8cd7317a281e0ca5dafa728925fdb2d42e8fe86eab0934228e1592e542"), looks := true }, kinds := [], alts := [], laidByText := true, laidKinds := [.data, .data, .data, .sentinel, .sentinel, .widerDeep], laidTests := true, laidLooks := .later }
def CodeEachUptoCardSaid : Prop := Claim7.holds Tryz.pinned (.plain (OpenSpec.upto codeEachSpec)) codeEachUptoCard

/-- THE SECOND FORM's CARD OF 'pleachlaw13.CodeMore'. -/
def codeMoreUptoCard : Claim7 := { stood := { row := codeMoreUptoRow, standIns := [], harness := (true, "45126c8cd7317a281e0ca5dafa728925fdb2d42e8fe86eab0934228e1592e542"), looks := true }, kinds := [], alts := [], laidByText := true, laidKinds := [.data, .data, .data, .sentinel, .sentinel, .widerDeep], laidTests := true, laidLooks := .later }
def CodeMoreUptoCardSaid : Prop := Claim7.holds Tryz.pinned (.plain (OpenSpec.upto codeMoreSpec)) codeMoreUptoCard
end Rows
end Go.Proofs.YtpjocalboapglaaGreatDoor
