/-
  NARROWER THAN 'FOR EVERY INPUT', by the rows' own cells (each row's printed sentence says how): MatchOne: loops, laid · MatchAll: loops, laid.
  DERIVED. THE GIVEN ROWS OF THIS SEAT. 2 by the template 'for every input the law returns true; each argument reads behind the call as it read before'; 0 by the template 'total and deterministic' (their statements: YtjnmdbfijdnaiaaGreatDoorTotals.lean).
  GIVEN WITH THE SEED: the statements are not yours to turn. If you find one false, say at which input.
  Laid BY PROGRAM, IN A SANDBOX (cutbox-rows.mjs): the forced cells as the released guide's own fill.sh prints them over the translation f65baef6c37047ad… (all of the seat's roots in one cut). By AI agents, Wed Nov 11 2026. No macro, syntax, notation, axiom, sorry.
-/
import Derived.Test.YtjnmdbfijdnaiaaGreatDoorChecked
import GoSem.Claim
import GoSem.ClaimJoined
import GoSem.ClaimMapViews
import Derived.JoinedTies
import Derived.KernelRfl
namespace Go.Proofs.YtjnmdbfijdnaiaaGreatDoor
/- THE CELL 'sum', in the pinned program and in every row, IS THE sha256 OF THE DUMP (.gsa) THAT YtjnmdbfijdnaiaaGreatDoorProg.lean LOADS. Nothing in Lean hashes anything: it is a label: what it is worth is what the hold of that sum in a sandbox is worth. -/
noncomputable def Tryz.pinned : Pinned := { name := "ytjnmdbfijdnaiaagreatdoor", sum := "f65baef6c37047ad06a00172b58479e24b2f3920ab626e87a9f921f24a270c4f", checked := Tryz.checked }
namespace Rows
def none {H : Type} : Left H := { results := [], args := [] }

/- WHAT THE LISTED PACKAGE-LEVEL VARIABLES READ AS WHEN THE CALL BEGINS. Each datum BY PROGRAM (the guide's laid-datum.mjs) off the statement by which the dump's own 'gosem.cut.vars' lays the variable. In a bare row this is a premise. The card (YtjnmdbfijdnaiaaGreatDoorCards.lean) ties it to the program's text. -/
def laid_pleach_atoms_letters {H : Type} : DataW H := .agg [.agg [.lit (.int .u8 97), .lit (.int .u8 122)], .agg [.lit (.int .u8 65), .lit (.int .u8 90)], .agg [.lit (.int .u8 48), .lit (.int .u8 57)], .agg [.lit (.int .u8 95), .lit (.int .u8 95)]]

/-- 'pleachlaw10.MatchOne': WHATEVER THE INPUT: true; the input reads as it did. -/
def matchOneSpec : ChangeSpec := { name := "matchOne", fn := fun _ => fun
  | [d1, d2, d3] => { results := [.lit (.bool true)], args := [d1, d2, d3] }
  | _ => none }
def matchOneRow : OpenClaim := { program := "ytjnmdbfijdnaiaagreatdoor", sum := "f65baef6c37047ad06a00172b58479e24b2f3920ab626e87a9f921f24a270c4f", func := "pleach/pleachlaw10.MatchOne", spec := "matchOne", unfollowed := true, recurses := true, named := ["pleach/atoms.letters"], loops := true, apart := false, laid := [("pleach/atoms.letters", laid_pleach_atoms_letters)] }
def MatchOneSaid : Prop := matchOneRow.holds Tryz.pinned (OpenSpec.ofChange matchOneSpec)

/-- ITS FALSE NEIGHBOUR: 'it returns false'. Refute it at one input. -/
def matchOneWrong : ChangeSpec := { name := "matchOne", fn := fun _ => fun
  | [d1, d2, d3] => { results := [.lit (.bool false)], args := [d1, d2, d3] }
  | _ => none }
def MatchOneWrongFalsely : Prop := matchOneRow.holds Tryz.pinned (OpenSpec.ofChange matchOneWrong)

/-- 'pleachlaw10.MatchAll': WHATEVER THE INPUT: true; the input reads as it did. -/
def matchAllSpec : ChangeSpec := { name := "matchAll", fn := fun _ => fun
  | [d1, d2, d3] => { results := [.lit (.bool true)], args := [d1, d2, d3] }
  | _ => none }
def matchAllRow : OpenClaim := { program := "ytjnmdbfijdnaiaagreatdoor", sum := "f65baef6c37047ad06a00172b58479e24b2f3920ab626e87a9f921f24a270c4f", func := "pleach/pleachlaw10.MatchAll", spec := "matchAll", unfollowed := true, recurses := true, named := ["pleach/atoms.letters"], loops := true, apart := false, laid := [("pleach/atoms.letters", laid_pleach_atoms_letters)] }
def MatchAllSaid : Prop := matchAllRow.holds Tryz.pinned (OpenSpec.ofChange matchAllSpec)

/-- ITS FALSE NEIGHBOUR: 'it returns false'. Refute it at one input. -/
def matchAllWrong : ChangeSpec := { name := "matchAll", fn := fun _ => fun
  | [d1, d2, d3] => { results := [.lit (.bool false)], args := [d1, d2, d3] }
  | _ => none }
def MatchAllWrongFalsely : Prop := matchAllRow.holds Tryz.pinned (OpenSpec.ofChange matchAllWrong)

/- THE SECOND FORM. 'bulk': how many values and letters a reading holds, each counted each time it is reached (what is shared counts as often as it is met; a slice's spare places count too). A statement '..UptoSaid' is the law's where the arguments, and the package variables that the reading takes, are together of bulk at most 1048576: NARROWER than '..Said'. Prove '..Said' where nothing that the law and all that it calls make is longer than what came in: it says more and counts as full. Else prove '..UptoSaid'. A law counts once. -/
mutual
def uptoBulk {H : Type} : DataW H → Nat
  | .lit (.string bytes) => bytes.length + 1
  | .lit _ => 1
  | .nil => 1
  | .ptr d => uptoBulk d + 1
  | .slice elems spare => uptoBulkAll elems + uptoBulkAll spare + 1
  | .agg parts => uptoBulkAll parts + 1
  | .iface _ d => uptoBulk d + 1
  | .map entries => uptoBulkEntries entries + 1
  | .held _ => 1
def uptoBulkAll {H : Type} : List (DataW H) → Nat
  | [] => 0
  | d :: r => uptoBulk d + uptoBulkAll r
def uptoBulkEntries {H : Type} : List (Lit × DataW H) → Nat
  | [] => 0
  | x :: r => uptoBulkEntry x + uptoBulkEntries r
def uptoBulkEntry {H : Type} : Lit × DataW H → Nat
  | (.string bytes, d) => bytes.length + uptoBulk d + 1
  | (_, d) => uptoBulk d + 1
 end
def uptoSmall : (H : Type) → List (DataW H) → Bool := fun _ ds => decide (uptoBulkAll ds ≤ 1048576)
def OpenSpec.upto (s : _root_.Go.ChangeSpec) : _root_.Go.OpenSpec := { _root_.Go.OpenSpec.ofChange s with cond := some uptoSmall }

/-- 'pleachlaw10.MatchOne', WHERE WHAT IT READS IS OF BULK AT MOST 1048576: true; the input reads as it did. -/
def matchOneUptoRow : OpenClaim := { program := "ytjnmdbfijdnaiaagreatdoor", sum := "f65baef6c37047ad06a00172b58479e24b2f3920ab626e87a9f921f24a270c4f", func := "pleach/pleachlaw10.MatchOne", spec := "matchOne", unfollowed := true, recurses := true, named := ["pleach/atoms.letters"], loops := true, apart := false, laid := [("pleach/atoms.letters", laid_pleach_atoms_letters)], narrowed := true }
def MatchOneUptoSaid : Prop := matchOneUptoRow.holds Tryz.pinned (OpenSpec.upto matchOneSpec)

/-- 'pleachlaw10.MatchAll', WHERE WHAT IT READS IS OF BULK AT MOST 1048576: true; the input reads as it did. -/
def matchAllUptoRow : OpenClaim := { program := "ytjnmdbfijdnaiaagreatdoor", sum := "f65baef6c37047ad06a00172b58479e24b2f3920ab626e87a9f921f24a270c4f", func := "pleach/pleachlaw10.MatchAll", spec := "matchAll", unfollowed := true, recurses := true, named := ["pleach/atoms.letters"], loops := true, apart := false, laid := [("pleach/atoms.letters", laid_pleach_atoms_letters)], narrowed := true }
def MatchAllUptoSaid : Prop := matchAllUptoRow.holds Tryz.pinned (OpenSpec.upto matchAllSpec)

end Rows
end Go.Proofs.YtjnmdbfijdnaiaaGreatDoor
