/-
  DERIVED. GIVEN WITH THE SEED: THE CARDS: each row of YtgliogfggajfgaaGreatDoorRows.lean that lists a variable, with what it lists TIED to the program's text (the seventh form; the later family's looks); each row that meets fmt, with fmt's text TOLD by the authors' own Lean function (tested against real Go, not proved from fmt's source: count such statements apart). THE CARD IS WHAT COUNTS. Prove the row's statement (the work); the ties are given (YtgliogfggajfgaaGreatDoorTie.lean); close each card by the builder's one call (the guide's Derived/Test/ToyasCard.lean, 'card_holds'). Laid BY PROGRAM, IN A SANDBOX (cutbox-door.mjs). By AI agents, Wed Nov 11 2026. No macro, syntax, notation, axiom, sorry.
-/
import Derived.Test.YtgliogfggajfgaaGreatDoorRows
import GoSem.ClaimSeven
namespace Go.Proofs.YtgliogfggajfgaaGreatDoor
namespace Rows

/-- THE TIED CARD OF 'pleachlaw22.SignalItems'. -/
def signalItemsCard : Claim7 := { stood := { row := signalItemsRow, standIns := [], harness := (true, "d46eaaa0d68d6428b9c0c378e7898936988d803269eabb96d5348f688fca1794"), looks := true }, kinds := [], alts := [], laidByText := true, laidKinds := [.data, .data, .data, .widerDeep], laidTests := true, laidLooks := .later }
def SignalItemsCardSaid : Prop := Claim7.holds Tryz.pinned (.plain (OpenSpec.ofChange signalItemsSpec)) signalItemsCard

/-- THE SECOND FORM's CARD OF 'pleachlaw22.SignalItems'. -/
def signalItemsUptoCard : Claim7 := { stood := { row := signalItemsUptoRow, standIns := [], harness := (true, "d46eaaa0d68d6428b9c0c378e7898936988d803269eabb96d5348f688fca1794"), looks := true }, kinds := [], alts := [], laidByText := true, laidKinds := [.data, .data, .data, .widerDeep], laidTests := true, laidLooks := .later }
def SignalItemsUptoCardSaid : Prop := Claim7.holds Tryz.pinned (.plain (OpenSpec.upto signalItemsSpec)) signalItemsUptoCard
end Rows
end Go.Proofs.YtgliogfggajfgaaGreatDoor
