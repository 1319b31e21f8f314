/-
  DERIVED. GIVEN WITH THE SEED: THE CARDS: each row of YtdjafnjmkkagjaaGreatDoorRows.lean that lists a variable, with what it lists TIED to the program's text (the seventh form; the later family's looks); each row that meets fmt, with fmt's text TOLD by the authors' own Lean function (tested against real Go, not proved from fmt's source: count such statements apart). THE CARD IS WHAT COUNTS. Prove the row's statement (the work); the ties are given (YtdjafnjmkkagjaaGreatDoorTie.lean); close each card by the builder's one call (the guide's Derived/Test/ToyasCard.lean, 'card_holds'). Laid BY PROGRAM, IN A SANDBOX (cutbox-door.mjs). By AI agents, Wed Nov 11 2026. No macro, syntax, notation, axiom, sorry.
-/
import Derived.Test.YtdjafnjmkkagjaaGreatDoorRows
import GoSem.ClaimSeven
namespace Go.Proofs.YtdjafnjmkkagjaaGreatDoor
namespace Rows

/-- THE TIED CARD OF 'pleachlaw25.SpecRestarts'. -/
def specRestartsCard : Claim7 := { stood := { row := specRestartsRow, standIns := [], harness := (true, "871535ea390328df4fb4f010445934fd91ded4a0e381220dc5a2aea1c95d5d2d"), looks := true }, kinds := [], alts := [], laidByText := true, laidKinds := [.handle, .widerDeep], laidTests := true, laidLooks := .later }
def SpecRestartsCardSaid : Prop := Claim7.holds Tryz.pinned (.plain (OpenSpec.ofChange specRestartsSpec)) specRestartsCard

/-- THE TIED CARD OF 'pleachlaw25.SpecTwice'. -/
def specTwiceCard : Claim7 := { stood := { row := specTwiceRow, standIns := [], harness := (true, "871535ea390328df4fb4f010445934fd91ded4a0e381220dc5a2aea1c95d5d2d"), looks := true }, kinds := [], alts := [], laidByText := true, laidKinds := [.handle, .widerDeep], laidTests := true, laidLooks := .later }
def SpecTwiceCardSaid : Prop := Claim7.holds Tryz.pinned (.plain (OpenSpec.ofChange specTwiceSpec)) specTwiceCard

/-- THE TIED CARD OF 'pleachlaw25.SpecBack'. -/
def specBackCard : Claim7 := { stood := { row := specBackRow, standIns := [], harness := (true, "871535ea390328df4fb4f010445934fd91ded4a0e381220dc5a2aea1c95d5d2d"), looks := true }, kinds := [], alts := [], laidByText := true, laidKinds := [.handle, .widerDeep], laidTests := true, laidLooks := .later }
def SpecBackCardSaid : Prop := Claim7.holds Tryz.pinned (.plain (OpenSpec.ofChange specBackSpec)) specBackCard

/-- THE TIED CARD OF 'pleachlaw07.AstSize'. -/
def astSizeCard : Claim7 := { stood := { row := astSizeRow, standIns := [], harness := (true, "871535ea390328df4fb4f010445934fd91ded4a0e381220dc5a2aea1c95d5d2d"), looks := true }, kinds := [], alts := [], laidByText := true, laidKinds := [.data, .data, .data, .widerDeep], laidTests := true, laidLooks := .later }
def AstSizeCardSaid : Prop := Claim7.holds Tryz.pinned (.plain (OpenSpec.ofChange astSizeSpec)) astSizeCard

/-- THE TIED CARD OF 'pleachlaw07.AstParts'. -/
def astPartsCard : Claim7 := { stood := { row := astPartsRow, standIns := [], harness := (true, "871535ea390328df4fb4f010445934fd91ded4a0e381220dc5a2aea1c95d5d2d"), looks := true }, kinds := [], alts := [], laidByText := true, laidKinds := [.data, .data, .data, .widerDeep], laidTests := true, laidLooks := .later }
def AstPartsCardSaid : Prop := Claim7.holds Tryz.pinned (.plain (OpenSpec.ofChange astPartsSpec)) astPartsCard

/-- THE TIED CARD OF 'pleachlaw07.AstWraps'. -/
def astWrapsCard : Claim7 := { stood := { row := astWrapsRow, standIns := [], harness := (true, "871535ea390328df4fb4f010445934fd91ded4a0e381220dc5a2aea1c95d5d2d"), looks := true }, kinds := [], alts := [], laidByText := true, laidKinds := [.data, .data, .data, .widerDeep], laidTests := true, laidLooks := .later }
def AstWrapsCardSaid : Prop := Claim7.holds Tryz.pinned (.plain (OpenSpec.ofChange astWrapsSpec)) astWrapsCard

/-- THE TIED CARD OF 'pleachlaw07.AstOne'. -/
def astOneCard : Claim7 := { stood := { row := astOneRow, standIns := [], harness := (true, "871535ea390328df4fb4f010445934fd91ded4a0e381220dc5a2aea1c95d5d2d"), looks := true }, kinds := [], alts := [], laidByText := true, laidKinds := [.data, .data, .data, .widerDeep], laidTests := true, laidLooks := .later }
def AstOneCardSaid : Prop := Claim7.holds Tryz.pinned (.plain (OpenSpec.ofChange astOneSpec)) astOneCard

/-- THE SECOND FORM's CARD OF 'pleachlaw25.SpecRestarts'. -/
def specRestartsUptoCard : Claim7 := { stood := { row := specRestartsUptoRow, standIns := [], harness := (true, "871535ea390328df4fb4f010445934fd91ded4a0e381220dc5a2aea1c95d5d2d"), looks := true }, kinds := [], alts := [], laidByText := true, laidKinds := [.handle, .widerDeep], laidTests := true, laidLooks := .later }
def SpecRestartsUptoCardSaid : Prop := Claim7.holds Tryz.pinned (.plain (OpenSpec.upto specRestartsSpec)) specRestartsUptoCard

/-- THE SECOND FORM's CARD OF 'pleachlaw25.SpecTwice'. -/
def specTwiceUptoCard : Claim7 := { stood := { row := specTwiceUptoRow, standIns := [], harness := (true, "871535ea390328df4fb4f010445934fd91ded4a0e381220dc5a2aea1c95d5d2d"), looks := true }, kinds := [], alts := [], laidByText := true, laidKinds := [.handle, .widerDeep], laidTests := true, laidLooks := .later }
def SpecTwiceUptoCardSaid : Prop := Claim7.holds Tryz.pinned (.plain (OpenSpec.upto specTwiceSpec)) specTwiceUptoCard

/-- THE SECOND FORM's CARD OF 'pleachlaw25.SpecBack'. -/
def specBackUptoCard : Claim7 := { stood := { row := specBackUptoRow, standIns := [], harness := (true, "871535ea390328df4fb4f010445934fd91ded4a0e381220dc5a2aea1c95d5d2d"), looks := true }, kinds := [], alts := [], laidByText := true, laidKinds := [.handle, .widerDeep], laidTests := true, laidLooks := .later }
def SpecBackUptoCardSaid : Prop := Claim7.holds Tryz.pinned (.plain (OpenSpec.upto specBackSpec)) specBackUptoCard

/-- THE SECOND FORM's CARD OF 'pleachlaw07.AstSize'. -/
def astSizeUptoCard : Claim7 := { stood := { row := astSizeUptoRow, standIns := [], harness := (true, "871535ea390328df4fb4f010445934fd91ded4a0e381220dc5a2aea1c95d5d2d"), looks := true }, kinds := [], alts := [], laidByText := true, laidKinds := [.data, .data, .data, .widerDeep], laidTests := true, laidLooks := .later }
def AstSizeUptoCardSaid : Prop := Claim7.holds Tryz.pinned (.plain (OpenSpec.upto astSizeSpec)) astSizeUptoCard

/-- THE SECOND FORM's CARD OF 'pleachlaw07.AstParts'. -/
def astPartsUptoCard : Claim7 := { stood := { row := astPartsUptoRow, standIns := [], harness := (true, "871535ea390328df4fb4f010445934fd91ded4a0e381220dc5a2aea1c95d5d2d"), looks := true }, kinds := [], alts := [], laidByText := true, laidKinds := [.data, .data, .data, .widerDeep], laidTests := true, laidLooks := .later }
def AstPartsUptoCardSaid : Prop := Claim7.holds Tryz.pinned (.plain (OpenSpec.upto astPartsSpec)) astPartsUptoCard

/-- THE SECOND FORM's CARD OF 'pleachlaw07.AstWraps'. -/
def astWrapsUptoCard : Claim7 := { stood := { row := astWrapsUptoRow, standIns := [], harness := (true, "871535ea390328df4fb4f010445934fd91ded4a0e381220dc5a2aea1c95d5d2d"), looks := true }, kinds := [], alts := [], laidByText := true, laidKinds := [.data, .data, .data, .widerDeep], laidTests := true, laidLooks := .later }
def AstWrapsUptoCardSaid : Prop := Claim7.holds Tryz.pinned (.plain (OpenSpec.upto astWrapsSpec)) astWrapsUptoCard

/-- THE SECOND FORM's CARD OF 'pleachlaw07.AstOne'. -/
def astOneUptoCard : Claim7 := { stood := { row := astOneUptoRow, standIns := [], harness := (true, "871535ea390328df4fb4f010445934fd91ded4a0e381220dc5a2aea1c95d5d2d"), looks := true }, kinds := [], alts := [], laidByText := true, laidKinds := [.data, .data, .data, .widerDeep], laidTests := true, laidLooks := .later }
def AstOneUptoCardSaid : Prop := Claim7.holds Tryz.pinned (.plain (OpenSpec.upto astOneSpec)) astOneUptoCard
end Rows
end Go.Proofs.YtdjafnjmkkagjaaGreatDoor
