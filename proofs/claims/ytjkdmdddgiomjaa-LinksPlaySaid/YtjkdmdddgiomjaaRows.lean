/-
  No cell of these rows narrows 'for every input' (looked for: loops, veiled, ifaces, maps, wideKeys, modest, calm, conditions, laid).
  DERIVED. THE GIVEN ROWS OF THIS SEAT. 4 by the template 'for every input the law returns true; each argument reads behind the call as it read before'; 0 by the template 'total and deterministic' (their statements: YtjkdmdddgiomjaaTotals.lean).
  GIVEN WITH THE SEED: the statements are not yours to turn. If you find one false, say at which input.
  Laid BY PROGRAM, IN A SANDBOX (cutbox-rows.mjs): the forced cells as the released guide's own fill.sh prints them over the translation a755fe25e49a21f5… (all of the seat's roots in one cut). By AI agents, Wed Nov 11 2026. No macro, syntax, notation, axiom, sorry.
-/
import Derived.Test.YtjkdmdddgiomjaaChecked
import GoSem.Claim
import GoSem.ClaimJoined
import GoSem.ClaimMapViews
import Derived.JoinedTies
import Derived.KernelRfl
namespace Go.Proofs.Ytjkdmdddgiomjaa
/- THE CELL 'sum', in the pinned program and in every row, IS THE sha256 OF THE DUMP (.gsa) THAT YtjkdmdddgiomjaaProg.lean LOADS. Nothing in Lean hashes anything: it is a label: what it is worth is what the hold of that sum in a sandbox is worth. -/
noncomputable def Try.pinned : Pinned := { name := "ytjkdmdddgiomjaa", sum := "a755fe25e49a21f54ebac31133d8127d28909e6d192c823c1ba7597034bb03cd", checked := Try.checked }
namespace Rows
def none {H : Type} : Left H := { results := [], args := [] }

/-- 'pleachlaw21.LinksApart': WHATEVER THE INPUT: true; the input reads as it did. -/
def linksApartSpec : ChangeSpec := { name := "linksApart", fn := fun _ => fun
  | [d1, d2, d3, d4] => { results := [.lit (.bool true)], args := [d1, d2, d3, d4] }
  | _ => none }
def linksApartRow : OpenClaim := { program := "ytjkdmdddgiomjaa", sum := "a755fe25e49a21f54ebac31133d8127d28909e6d192c823c1ba7597034bb03cd", func := "pleach/pleachlaw21.LinksApart", spec := "linksApart", unfollowed := true, recurses := true, plainKeys := false, apart := false }
def LinksApartSaid : Prop := linksApartRow.holds Try.pinned (OpenSpec.ofChange linksApartSpec)

/-- ITS FALSE NEIGHBOUR: 'it returns false'. Refute it at one input. -/
def linksApartWrong : ChangeSpec := { name := "linksApart", fn := fun _ => fun
  | [d1, d2, d3, d4] => { results := [.lit (.bool false)], args := [d1, d2, d3, d4] }
  | _ => none }
def LinksApartWrongFalsely : Prop := linksApartRow.holds Try.pinned (OpenSpec.ofChange linksApartWrong)

/-- 'pleachlaw21.LinksPlay': WHATEVER THE INPUT: true; the input reads as it did. -/
def linksPlaySpec : ChangeSpec := { name := "linksPlay", fn := fun _ => fun
  | [d1, d2, d3] => { results := [.lit (.bool true)], args := [d1, d2, d3] }
  | _ => none }
def linksPlayRow : OpenClaim := { program := "ytjkdmdddgiomjaa", sum := "a755fe25e49a21f54ebac31133d8127d28909e6d192c823c1ba7597034bb03cd", func := "pleach/pleachlaw21.LinksPlay", spec := "linksPlay", unfollowed := true, recurses := true, plainKeys := false, apart := false }
def LinksPlaySaid : Prop := linksPlayRow.holds Try.pinned (OpenSpec.ofChange linksPlaySpec)

/-- ITS FALSE NEIGHBOUR: 'it returns false'. Refute it at one input. -/
def linksPlayWrong : ChangeSpec := { name := "linksPlay", fn := fun _ => fun
  | [d1, d2, d3] => { results := [.lit (.bool false)], args := [d1, d2, d3] }
  | _ => none }
def LinksPlayWrongFalsely : Prop := linksPlayRow.holds Try.pinned (OpenSpec.ofChange linksPlayWrong)

/-- 'pleachlaw21.LinksBoth': WHATEVER THE INPUT: true; the input reads as it did. -/
def linksBothSpec : ChangeSpec := { name := "linksBoth", fn := fun _ => fun
  | [d1, d2, d3] => { results := [.lit (.bool true)], args := [d1, d2, d3] }
  | _ => none }
def linksBothRow : OpenClaim := { program := "ytjkdmdddgiomjaa", sum := "a755fe25e49a21f54ebac31133d8127d28909e6d192c823c1ba7597034bb03cd", func := "pleach/pleachlaw21.LinksBoth", spec := "linksBoth", unfollowed := true, recurses := true, plainKeys := false, apart := false }
def LinksBothSaid : Prop := linksBothRow.holds Try.pinned (OpenSpec.ofChange linksBothSpec)

/-- ITS FALSE NEIGHBOUR: 'it returns false'. Refute it at one input. -/
def linksBothWrong : ChangeSpec := { name := "linksBoth", fn := fun _ => fun
  | [d1, d2, d3] => { results := [.lit (.bool false)], args := [d1, d2, d3] }
  | _ => none }
def LinksBothWrongFalsely : Prop := linksBothRow.holds Try.pinned (OpenSpec.ofChange linksBothWrong)

/-- 'pleachlaw21.LinksNil': WHATEVER THE INPUT: true; the input reads as it did. -/
def linksNilSpec : ChangeSpec := { name := "linksNil", fn := fun _ => fun
  | [d1, d2, d3] => { results := [.lit (.bool true)], args := [d1, d2, d3] }
  | _ => none }
def linksNilRow : OpenClaim := { program := "ytjkdmdddgiomjaa", sum := "a755fe25e49a21f54ebac31133d8127d28909e6d192c823c1ba7597034bb03cd", func := "pleach/pleachlaw21.LinksNil", spec := "linksNil", unfollowed := true, recurses := true, plainKeys := false, apart := false }
def LinksNilSaid : Prop := linksNilRow.holds Try.pinned (OpenSpec.ofChange linksNilSpec)

/-- ITS FALSE NEIGHBOUR: 'it returns false'. Refute it at one input. -/
def linksNilWrong : ChangeSpec := { name := "linksNil", fn := fun _ => fun
  | [d1, d2, d3] => { results := [.lit (.bool false)], args := [d1, d2, d3] }
  | _ => none }
def LinksNilWrongFalsely : Prop := linksNilRow.holds Try.pinned (OpenSpec.ofChange linksNilWrong)

/- THE SECOND FORM. 'bulk': how many values and letters a reading holds, each counted each time it is reached (what is shared counts as often as it is met; a slice's spare places count too). A statement '..UptoSaid' is the law's where the arguments, and the package variables that the reading takes, are together of bulk at most 1048576: NARROWER than '..Said'. Prove '..Said' where nothing that the law and all that it calls make is longer than what came in: it says more and counts as full. Else prove '..UptoSaid'. A law counts once. -/
mutual
def uptoBulk {H : Type} : DataW H → Nat
  | .lit (.string bytes) => bytes.length + 1
  | .lit _ => 1
  | .nil => 1
  | .ptr d => uptoBulk d + 1
  | .slice elems spare => uptoBulkAll elems + uptoBulkAll spare + 1
  | .agg parts => uptoBulkAll parts + 1
  | .iface _ d => uptoBulk d + 1
  | .map entries => uptoBulkEntries entries + 1
  | .held _ => 1
def uptoBulkAll {H : Type} : List (DataW H) → Nat
  | [] => 0
  | d :: r => uptoBulk d + uptoBulkAll r
def uptoBulkEntries {H : Type} : List (Lit × DataW H) → Nat
  | [] => 0
  | x :: r => uptoBulkEntry x + uptoBulkEntries r
def uptoBulkEntry {H : Type} : Lit × DataW H → Nat
  | (.string bytes, d) => bytes.length + uptoBulk d + 1
  | (_, d) => uptoBulk d + 1
 end
def uptoSmall : (H : Type) → List (DataW H) → Bool := fun _ ds => decide (uptoBulkAll ds ≤ 1048576)
def OpenSpec.upto (s : _root_.Go.ChangeSpec) : _root_.Go.OpenSpec := { _root_.Go.OpenSpec.ofChange s with cond := some uptoSmall }

/-- 'pleachlaw21.LinksApart', WHERE WHAT IT READS IS OF BULK AT MOST 1048576: true; the input reads as it did. -/
def linksApartUptoRow : OpenClaim := { program := "ytjkdmdddgiomjaa", sum := "a755fe25e49a21f54ebac31133d8127d28909e6d192c823c1ba7597034bb03cd", func := "pleach/pleachlaw21.LinksApart", spec := "linksApart", unfollowed := true, recurses := true, plainKeys := false, apart := false, narrowed := true }
def LinksApartUptoSaid : Prop := linksApartUptoRow.holds Try.pinned (OpenSpec.upto linksApartSpec)

/-- 'pleachlaw21.LinksPlay', WHERE WHAT IT READS IS OF BULK AT MOST 1048576: true; the input reads as it did. -/
def linksPlayUptoRow : OpenClaim := { program := "ytjkdmdddgiomjaa", sum := "a755fe25e49a21f54ebac31133d8127d28909e6d192c823c1ba7597034bb03cd", func := "pleach/pleachlaw21.LinksPlay", spec := "linksPlay", unfollowed := true, recurses := true, plainKeys := false, apart := false, narrowed := true }
def LinksPlayUptoSaid : Prop := linksPlayUptoRow.holds Try.pinned (OpenSpec.upto linksPlaySpec)

/-- 'pleachlaw21.LinksBoth', WHERE WHAT IT READS IS OF BULK AT MOST 1048576: true; the input reads as it did. -/
def linksBothUptoRow : OpenClaim := { program := "ytjkdmdddgiomjaa", sum := "a755fe25e49a21f54ebac31133d8127d28909e6d192c823c1ba7597034bb03cd", func := "pleach/pleachlaw21.LinksBoth", spec := "linksBoth", unfollowed := true, recurses := true, plainKeys := false, apart := false, narrowed := true }
def LinksBothUptoSaid : Prop := linksBothUptoRow.holds Try.pinned (OpenSpec.upto linksBothSpec)

/-- 'pleachlaw21.LinksNil', WHERE WHAT IT READS IS OF BULK AT MOST 1048576: true; the input reads as it did. -/
def linksNilUptoRow : OpenClaim := { program := "ytjkdmdddgiomjaa", sum := "a755fe25e49a21f54ebac31133d8127d28909e6d192c823c1ba7597034bb03cd", func := "pleach/pleachlaw21.LinksNil", spec := "linksNil", unfollowed := true, recurses := true, plainKeys := false, apart := false, narrowed := true }
def LinksNilUptoSaid : Prop := linksNilUptoRow.holds Try.pinned (OpenSpec.upto linksNilSpec)

end Rows
end Go.Proofs.Ytjkdmdddgiomjaa
