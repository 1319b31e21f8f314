/-
  DERIVED. GIVEN WITH THE SEED: THE CARDS: each row of YtfabiccdolpemaaGreatDoorRows.lean that lists a variable, with what it lists TIED to the program's text (the seventh form; the later family's looks); each row that meets fmt, with fmt's text TOLD by the authors' own Lean function (tested against real Go, not proved from fmt's source: count such statements apart). THE CARD IS WHAT COUNTS. Prove the row's statement (the work); the ties are given (YtfabiccdolpemaaGreatDoorTie.lean); close each card by the builder's one call (the guide's Derived/Test/ToyasCard.lean, 'card_holds'). Laid BY PROGRAM, IN A SANDBOX (cutbox-door.mjs). By AI agents, Wed Nov 11 2026. No macro, syntax, notation, axiom, sorry.
-/
import Derived.Test.YtfabiccdolpemaaGreatDoorRows
import GoSem.ClaimSeven
namespace Go.Proofs.YtfabiccdolpemaaGreatDoor
namespace Rows

/-- THE TIED CARD OF 'pleachlaw30.TreeWhy'. -/
def treeWhyCard : Claim7 := { stood := { row := treeWhyRow, standIns := [], harness := (true, "ce37d8e3d0ee957f791a4194e424ce42c2f9193c0f98681aed187f94ab4e08bc"), looks := true }, kinds := [], alts := [], laidByText := true, laidKinds := [.data, .data, .data, .handle, .widerDeep, .data, .data], laidTests := true, laidLooks := .later }
def TreeWhyCardSaid : Prop := Claim7.holds Tryz.pinned (.plain (OpenSpec.ofChange treeWhySpec)) treeWhyCard

/-- THE SECOND FORM's CARD OF 'pleachlaw30.TreeWhy'. -/
def treeWhyUptoCard : Claim7 := { stood := { row := treeWhyUptoRow, standIns := [], harness := (true, "ce37d8e3d0ee957f791a4194e424ce42c2f9193c0f98681aed187f94ab4e08bc"), looks := true }, kinds := [], alts := [], laidByText := true, laidKinds := [.data, .data, .data, .handle, .widerDeep, .data, .data], laidTests := true, laidLooks := .later }
def TreeWhyUptoCardSaid : Prop := Claim7.holds Tryz.pinned (.plain (OpenSpec.upto treeWhySpec)) treeWhyUptoCard
end Rows
end Go.Proofs.YtfabiccdolpemaaGreatDoor
