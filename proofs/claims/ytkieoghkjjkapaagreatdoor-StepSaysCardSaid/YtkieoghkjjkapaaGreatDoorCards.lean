/-
  DERIVED. GIVEN WITH THE SEED: THE CARDS: each row of YtkieoghkjjkapaaGreatDoorRows.lean that lists a variable, with what it lists TIED to the program's text (the seventh form; the later family's looks); each row that meets fmt, with fmt's text TOLD by the authors' own Lean function (tested against real Go, not proved from fmt's source: count such statements apart). THE CARD IS WHAT COUNTS. Prove the row's statement (the work); the ties are given (YtkieoghkjjkapaaGreatDoorTie.lean); close each card by the builder's one call (the guide's Derived/Test/ToyasCard.lean, 'card_holds'). Laid BY PROGRAM, IN A SANDBOX (cutbox-door.mjs). By AI agents, Wed Nov 11 2026. No macro, syntax, notation, axiom, sorry.
-/
import Derived.Test.YtkieoghkjjkapaaGreatDoorRows
import GoSem.ClaimSeven
namespace Go.Proofs.YtkieoghkjjkapaaGreatDoor
namespace Rows

/-- THE TIED CARD OF 'pleachlaw18.StepSays'. -/
def stepSaysCard : Claim7 := { stood := { row := stepSaysRow, standIns := [], harness := (true, "ea0ce6f17050b412470fcbb4e071c9b82dfdbadaea78662d754900246678b620"), looks := true }, kinds := [], alts := [], laidByText := true, laidKinds := [.data, .data, .data, .sentinel, .sentinel, .widerDeep], laidTests := true, laidLooks := .later }
def StepSaysCardSaid : Prop := Claim7.holds Tryz.pinned (.plain (OpenSpec.ofChange stepSaysSpec)) stepSaysCard

/-- THE SECOND FORM's CARD OF 'pleachlaw18.StepSays'. -/
def stepSaysUptoCard : Claim7 := { stood := { row := stepSaysUptoRow, standIns := [], harness := (true, "ea0ce6f17050b412470fcbb4e071c9b82dfdbadaea78662d754900246678b620"), looks := true }, kinds := [], alts := [], laidByText := true, laidKinds := [.data, .data, .data, .sentinel, .sentinel, .widerDeep], laidTests := true, laidLooks := .later }
def StepSaysUptoCardSaid : Prop := Claim7.holds Tryz.pinned (.plain (OpenSpec.upto stepSaysSpec)) stepSaysUptoCard
end Rows
end Go.Proofs.YtkieoghkjjkapaaGreatDoor
