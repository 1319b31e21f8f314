/-
  DERIVED. GIVEN WITH THE SEED: THE CARDS: each row of YtgjfdbbghefdbaaGreatDoorRows.lean that lists a variable, with what it lists TIED to the program's text (the seventh form; the later family's looks); each row that meets fmt, with fmt's text TOLD by the authors' own Lean function (tested against real Go, not proved from fmt's source: count such statements apart). THE CARD IS WHAT COUNTS. Prove the row's statement (the work); the ties are given (YtgjfdbbghefdbaaGreatDoorTie.lean); close each card by the builder's one call (the guide's Derived/Test/ToyasCard.lean, 'card_holds'). Laid BY PROGRAM, IN A SANDBOX (cutbox-door.mjs). By AI agents, Wed Nov 11 2026. No macro, syntax, notation, axiom, sorry.
-/
import Derived.Test.YtgjfdbbghefdbaaGreatDoorRows
import GoSem.ClaimSeven
namespace Go.Proofs.YtgjfdbbghefdbaaGreatDoor
namespace Rows

/-- THE TIED CARD OF 'pleachlaw15.FrameBelow'. -/
def frameBelowCard : Claim7 := { stood := { row := frameBelowRow, standIns := [], harness := (true, "744ae7ecb42c26e1b34fd685bd5e70730d1d98906e0ae1941950bdd2f33a93eb"), looks := true }, kinds := [], alts := [], laidByText := true, laidKinds := [.data, .data, .data, .sentinel, .sentinel, .widerDeep], laidTests := true, laidLooks := .later }
def FrameBelowCardSaid : Prop := Claim7.holds Tryz.pinned (.plain (OpenSpec.ofChange frameBelowSpec)) frameBelowCard

/-- THE TIED CARD OF 'pleachlaw15.FrameThere'. -/
def frameThereCard : Claim7 := { stood := { row := frameThereRow, standIns := [], harness := (true, "744ae7ecb42c26e1b34fd685bd5e70730d1d98906e0ae1941950bdd2f33a93eb"), looks := true }, kinds := [], alts := [], laidByText := true, laidKinds := [.data, .data, .data, .sentinel, .sentinel, .widerDeep], laidTests := true, laidLooks := .later }
def FrameThereCardSaid : Prop := Claim7.holds Tryz.pinned (.plain (OpenSpec.ofChange frameThereSpec)) frameThereCard

/-- THE SECOND FORM's CARD OF 'pleachlaw15.FrameBelow'. -/
def frameBelowUptoCard : Claim7 := { stood := { row := frameBelowUptoRow, standIns := [], harness := (true, "744ae7ecb42c26e1b34fd685bd5e70730d1d98906e0ae1941950bdd2f33a93eb"), looks := true }, kinds := [], alts := [], laidByText := true, laidKinds := [.data, .data, .data, .sentinel, .sentinel, .widerDeep], laidTests := true, laidLooks := .later }
def FrameBelowUptoCardSaid : Prop := Claim7.holds Tryz.pinned (.plain (OpenSpec.upto frameBelowSpec)) frameBelowUptoCard

/-- THE SECOND FORM's CARD OF 'pleachlaw15.FrameThere'. -/
def frameThereUptoCard : Claim7 := { stood := { row := frameThereUptoRow, standIns := [], harness := (true, "744ae7ecb42c26e1b34fd685bd5e70730d1d98906e0ae1941950bdd2f33a93eb"), looks := true }, kinds := [], alts := [], laidByText := true, laidKinds := [.data, .data, .data, .sentinel, .sentinel, .widerDeep], laidTests := true, laidLooks := .later }
def FrameThereUptoCardSaid : Prop := Claim7.holds Tryz.pinned (.plain (OpenSpec.upto frameThereSpec)) frameThereUptoCard
end Rows
end Go.Proofs.YtgjfdbbghefdbaaGreatDoor
