/-
  DERIVED. GIVEN WITH THE SEED: THE CARDS: each row of YtmnjcbjfkaoeaaaDoorRows.lean that lists a variable, with what it lists TIED to the program's text (the seventh form; the later family's looks); each row that meets fmt, with fmt's text TOLD by the authors' own Lean function (tested against real Go, not proved from fmt's source: count such statements apart). THE CARD IS WHAT COUNTS. Prove the row's statement (the work); the ties are given (YtmnjcbjfkaoeaaaDoorTie.lean); close each card by the builder's one call (the guide's Derived/Test/ToyasCard.lean, 'card_holds'). Laid BY PROGRAM, IN A SANDBOX (cutbox-door.mjs). By AI agents, Wed Nov 11 2026. No macro, syntax, notation, axiom, sorry.
-/
import Derived.Test.YtmnjcbjfkaoeaaaDoorRows
import GoSem.ClaimSeven
namespace Go.Proofs.YtmnjcbjfkaoeaaaDoor
namespace Rows

/-- THE TIED CARD OF 'pleachlaw10.MatchMore'. -/
def matchMoreCard : Claim7 := { stood := { row := matchMoreRow, standIns := [], harness := (true, "8f36298b68bf10ad78f4451aa8d925fa645fcddbd8547e4fa70f4bdb3c52c805"), looks := true }, kinds := [], alts := [], laidByText := true, laidKinds := [.widerDeep], laidTests := true, laidLooks := .later }
def MatchMoreCardSaid : Prop := Claim7.holds Tryd.pinned (.plain (OpenSpec.ofChange matchMoreSpec)) matchMoreCard

/-- THE TIED CARD OF 'pleachlaw10.MatchFill'. -/
def matchFillCard : Claim7 := { stood := { row := matchFillRow, standIns := [], harness := (true, "8f36298b68bf10ad78f4451aa8d925fa645fcddbd8547e4fa70f4bdb3c52c805"), looks := true }, kinds := [], alts := [], laidByText := true, laidKinds := [.widerDeep], laidTests := true, laidLooks := .later }
def MatchFillCardSaid : Prop := Claim7.holds Tryd.pinned (.plain (OpenSpec.ofChange matchFillSpec)) matchFillCard

/-- THE SECOND FORM's CARD OF 'pleachlaw10.MatchMore'. -/
def matchMoreUptoCard : Claim7 := { stood := { row := matchMoreUptoRow, standIns := [], harness := (true, "8f36298b68bf10ad78f4451aa8d925fa645fcddbd8547e4fa70f4bdb3c52c805"), looks := true }, kinds := [], alts := [], laidByText := true, laidKinds := [.widerDeep], laidTests := true, laidLooks := .later }
def MatchMoreUptoCardSaid : Prop := Claim7.holds Tryd.pinned (.plain (OpenSpec.upto matchMoreSpec)) matchMoreUptoCard

/-- THE SECOND FORM's CARD OF 'pleachlaw10.MatchFill'. -/
def matchFillUptoCard : Claim7 := { stood := { row := matchFillUptoRow, standIns := [], harness := (true, "8f36298b68bf10ad78f4451aa8d925fa645fcddbd8547e4fa70f4bdb3c52c805"), looks := true }, kinds := [], alts := [], laidByText := true, laidKinds := [.widerDeep], laidTests := true, laidLooks := .later }
def MatchFillUptoCardSaid : Prop := Claim7.holds Tryd.pinned (.plain (OpenSpec.upto matchFillSpec)) matchFillUptoCard
end Rows
end Go.Proofs.YtmnjcbjfkaoeaaaDoor
