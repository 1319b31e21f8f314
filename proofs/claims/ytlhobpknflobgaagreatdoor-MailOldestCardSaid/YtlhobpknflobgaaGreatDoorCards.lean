/-
  DERIVED. GIVEN WITH THE SEED: THE CARDS: each row of YtlhobpknflobgaaGreatDoorRows.lean that lists a variable, with what it lists TIED to the program's text (the seventh form; the later family's looks); each row that meets fmt, with fmt's text TOLD by the authors' own Lean function (tested against real Go, not proved from fmt's source: count such statements apart). THE CARD IS WHAT COUNTS. Prove the row's statement (the work); the ties are given (YtlhobpknflobgaaGreatDoorTie.lean); close each card by the builder's one call (the guide's Derived/Test/ToyasCard.lean, 'card_holds'). Laid BY PROGRAM, IN A SANDBOX (cutbox-door.mjs). By AI agents, Wed Nov 11 2026. No macro, syntax, notation, axiom, sorry.
-/
import Derived.Test.YtlhobpknflobgaaGreatDoorRows
import GoSem.ClaimSeven
namespace Go.Proofs.YtlhobpknflobgaaGreatDoor
namespace Rows

/-- THE TIED CARD OF 'pleachlaw11.GuardEach'. -/
def guardEachCard : Claim7 := { stood := { row := guardEachRow, standIns := [], harness := (true, "d5161543d10a5fde6e7d3f277a2177a41a282efc0f9bc2e91fb3be65e1c4d80f"), looks := true }, kinds := [], alts := [], laidByText := true, laidKinds := [.widerDeep], laidTests := true, laidLooks := .later }
def GuardEachCardSaid : Prop := Claim7.holds Tryz.pinned (.plain (OpenSpec.ofChange guardEachSpec)) guardEachCard

/-- THE TIED CARD OF 'pleachlaw11.GuardTells'. -/
def guardTellsCard : Claim7 := { stood := { row := guardTellsRow, standIns := [], harness := (true, "d5161543d10a5fde6e7d3f277a2177a41a282efc0f9bc2e91fb3be65e1c4d80f"), looks := true }, kinds := [], alts := [], laidByText := true, laidKinds := [.widerDeep], laidTests := true, laidLooks := .later }
def GuardTellsCardSaid : Prop := Claim7.holds Tryz.pinned (.plain (OpenSpec.ofChange guardTellsSpec)) guardTellsCard

/-- THE TIED CARD OF 'pleachlaw11.GuardNots'. -/
def guardNotsCard : Claim7 := { stood := { row := guardNotsRow, standIns := [], harness := (true, "d5161543d10a5fde6e7d3f277a2177a41a282efc0f9bc2e91fb3be65e1c4d80f"), looks := true }, kinds := [], alts := [], laidByText := true, laidKinds := [.widerDeep], laidTests := true, laidLooks := .later }
def GuardNotsCardSaid : Prop := Claim7.holds Tryz.pinned (.plain (OpenSpec.ofChange guardNotsSpec)) guardNotsCard

/-- THE TIED CARD OF 'pleachlaw11.GuardFirst'. -/
def guardFirstCard : Claim7 := { stood := { row := guardFirstRow, standIns := [], harness := (true, "d5161543d10a5fde6e7d3f277a2177a41a282efc0f9bc2e91fb3be65e1c4d80f"), looks := true }, kinds := [], alts := [], laidByText := true, laidKinds := [.widerDeep], laidTests := true, laidLooks := .later }
def GuardFirstCardSaid : Prop := Claim7.holds Tryz.pinned (.plain (OpenSpec.ofChange guardFirstSpec)) guardFirstCard

/-- THE TIED CARD OF 'pleachlaw17.MailSelects'. -/
def mailSelectsCard : Claim7 := { stood := { row := mailSelectsRow, standIns := [], harness := (true, "d5161543d10a5fde6e7d3f277a2177a41a282efc0f9bc2e91fb3be65e1c4d80f"), looks := true }, kinds := [], alts := [], laidByText := true, laidKinds := [.widerDeep], laidTests := true, laidLooks := .later }
def MailSelectsCardSaid : Prop := Claim7.holds Tryz.pinned (.plain (OpenSpec.ofChange mailSelectsSpec)) mailSelectsCard

/-- THE TIED CARD OF 'pleachlaw17.MailOldest'. -/
def mailOldestCard : Claim7 := { stood := { row := mailOldestRow, standIns := [], harness := (true, "d5161543d10a5fde6e7d3f277a2177a41a282efc0f9bc2e91fb3be65e1c4d80f"), looks := true }, kinds := [], alts := [], laidByText := true, laidKinds := [.widerDeep], laidTests := true, laidLooks := .later }
def MailOldestCardSaid : Prop := Claim7.holds Tryz.pinned (.plain (OpenSpec.ofChange mailOldestSpec)) mailOldestCard

/-- THE TIED CARD OF 'pleachlaw17.MailRows'. -/
def mailRowsCard : Claim7 := { stood := { row := mailRowsRow, standIns := [], harness := (true, "d5161543d10a5fde6e7d3f277a2177a41a282efc0f9bc2e91fb3be65e1c4d80f"), looks := true }, kinds := [], alts := [], laidByText := true, laidKinds := [.widerDeep], laidTests := true, laidLooks := .later }
def MailRowsCardSaid : Prop := Claim7.holds Tryz.pinned (.plain (OpenSpec.ofChange mailRowsSpec)) mailRowsCard

/-- THE TIED CARD OF 'pleachlaw17.MailTaken'. -/
def mailTakenCard : Claim7 := { stood := { row := mailTakenRow, standIns := [], harness := (true, "d5161543d10a5fde6e7d3f277a2177a41a282efc0f9bc2e91fb3be65e1c4d80f"), looks := true }, kinds := [], alts := [], laidByText := true, laidKinds := [.widerDeep], laidTests := true, laidLooks := .later }
def MailTakenCardSaid : Prop := Claim7.holds Tryz.pinned (.plain (OpenSpec.ofChange mailTakenSpec)) mailTakenCard

/-- THE SECOND FORM's CARD OF 'pleachlaw11.GuardEach'. -/
def guardEachUptoCard : Claim7 := { stood := { row := guardEachUptoRow, standIns := [], harness := (true, "d5161543d10a5fde6e7d3f277a2177a41a282efc0f9bc2e91fb3be65e1c4d80f"), looks := true }, kinds := [], alts := [], laidByText := true, laidKinds := [.widerDeep], laidTests := true, laidLooks := .later }
def GuardEachUptoCardSaid : Prop := Claim7.holds Tryz.pinned (.plain (OpenSpec.upto guardEachSpec)) guardEachUptoCard

/-- THE SECOND FORM's CARD OF 'pleachlaw11.GuardTells'. -/
def guardTellsUptoCard : Claim7 := { stood := { row := guardTellsUptoRow, standIns := [], harness := (true, "d5161543d10a5fde6e7d3f277a2177a41a282efc0f9bc2e91fb3be65e1c4d80f"), looks := true }, kinds := [], alts := [], laidByText := true, laidKinds := [.widerDeep], laidTests := true, laidLooks := .later }
def GuardTellsUptoCardSaid : Prop := Claim7.holds Tryz.pinned (.plain (OpenSpec.upto guardTellsSpec)) guardTellsUptoCard

/-- THE SECOND FORM's CARD OF 'pleachlaw11.GuardNots'. -/
def guardNotsUptoCard : Claim7 := { stood := { row := guardNotsUptoRow, standIns := [], harness := (true, "d5161543d10a5fde6e7d3f277a2177a41a282efc0f9bc2e91fb3be65e1c4d80f"), looks := true }, kinds := [], alts := [], laidByText := true, laidKinds := [.widerDeep], laidTests := true, laidLooks := .later }
def GuardNotsUptoCardSaid : Prop := Claim7.holds Tryz.pinned (.plain (OpenSpec.upto guardNotsSpec)) guardNotsUptoCard

/-- THE SECOND FORM's CARD OF 'pleachlaw11.GuardFirst'. -/
def guardFirstUptoCard : Claim7 := { stood := { row := guardFirstUptoRow, standIns := [], harness := (true, "d5161543d10a5fde6e7d3f277a2177a41a282efc0f9bc2e91fb3be65e1c4d80f"), looks := true }, kinds := [], alts := [], laidByText := true, laidKinds := [.widerDeep], laidTests := true, laidLooks := .later }
def GuardFirstUptoCardSaid : Prop := Claim7.holds Tryz.pinned (.plain (OpenSpec.upto guardFirstSpec)) guardFirstUptoCard

/-- THE SECOND FORM's CARD OF 'pleachlaw17.MailSelects'. -/
def mailSelectsUptoCard : Claim7 := { stood := { row := mailSelectsUptoRow, standIns := [], harness := (true, "d5161543d10a5fde6e7d3f277a2177a41a282efc0f9bc2e91fb3be65e1c4d80f"), looks := true }, kinds := [], alts := [], laidByText := true, laidKinds := [.widerDeep], laidTests := true, laidLooks := .later }
def MailSelectsUptoCardSaid : Prop := Claim7.holds Tryz.pinned (.plain (OpenSpec.upto mailSelectsSpec)) mailSelectsUptoCard

/-- THE SECOND FORM's CARD OF 'pleachlaw17.MailOldest'. -/
def mailOldestUptoCard : Claim7 := { stood := { row := mailOldestUptoRow, standIns := [], harness := (true, "d5161543d10a5fde6e7d3f277a2177a41a282efc0f9bc2e91fb3be65e1c4d80f"), looks := true }, kinds := [], alts := [], laidByText := true, laidKinds := [.widerDeep], laidTests := true, laidLooks := .later }
def MailOldestUptoCardSaid : Prop := Claim7.holds Tryz.pinned (.plain (OpenSpec.upto mailOldestSpec)) mailOldestUptoCard

/-- THE SECOND FORM's CARD OF 'pleachlaw17.MailRows'. -/
def mailRowsUptoCard : Claim7 := { stood := { row := mailRowsUptoRow, standIns := [], harness := (true, "d5161543d10a5fde6e7d3f277a2177a41a282efc0f9bc2e91fb3be65e1c4d80f"), looks := true }, kinds := [], alts := [], laidByText := true, laidKinds := [.widerDeep], laidTests := true, laidLooks := .later }
def MailRowsUptoCardSaid : Prop := Claim7.holds Tryz.pinned (.plain (OpenSpec.upto mailRowsSpec)) mailRowsUptoCard

/-- THE SECOND FORM's CARD OF 'pleachlaw17.MailTaken'. -/
def mailTakenUptoCard : Claim7 := { stood := { row := mailTakenUptoRow, standIns := [], harness := (true, "d5161543d10a5fde6e7d3f277a2177a41a282efc0f9bc2e91fb3be65e1c4d80f"), looks := true }, kinds := [], alts := [], laidByText := true, laidKinds := [.widerDeep], laidTests := true, laidLooks := .later }
def MailTakenUptoCardSaid : Prop := Claim7.holds Tryz.pinned (.plain (OpenSpec.upto mailTakenSpec)) mailTakenUptoCard
end Rows
end Go.Proofs.YtlhobpknflobgaaGreatDoor
