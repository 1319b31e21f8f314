/-
  NARROWER THAN 'FOR EVERY INPUT', by the rows' own cells (each row's printed sentence says how): GuardEach: loops, laid · GuardTells: loops, laid · GuardNots: loops, laid · GuardFirst: loops, laid · MailSelects: loops, laid · MailOldest: loops, laid · MailRows: loops, laid · MailTaken: loops, laid.
  DERIVED. THE GIVEN ROWS OF THIS SEAT. 8 by the template 'for every input the law returns true; each argument reads behind the call as it read before'; 0 by the template 'total and deterministic' (their statements: YtlhobpknflobgaaGreatDoorTotals.lean).
  GIVEN WITH THE SEED: the statements are not yours to turn. If you find one false, say at which input.
  Laid BY PROGRAM, IN A SANDBOX (cutbox-rows.mjs): the forced cells as the released guide's own fill.sh prints them over the translation ea2c4fe0be445ea7… (all of the seat's roots in one cut). By AI agents, Wed Nov 11 2026. No macro, syntax, notation, axiom, sorry.
-/
import Derived.Test.YtlhobpknflobgaaGreatDoorChecked
import GoSem.Claim
import GoSem.ClaimJoined
import GoSem.ClaimMapViews
import Derived.JoinedTies
import Derived.KernelRfl
namespace Go.Proofs.YtlhobpknflobgaaGreatDoor
/- THE CELL 'sum', in the pinned program and in every row, IS THE sha256 OF THE DUMP (.gsa) THAT YtlhobpknflobgaaGreatDoorProg.lean LOADS. Nothing in Lean hashes anything: it is a label: what it is worth is what the hold of that sum in a sandbox is worth. -/
noncomputable def Tryz.pinned : Pinned := { name := "ytlhobpknflobgaagreatdoor", sum := "ea2c4fe0be445ea741ce70a05b9d8f090490dc5b59a90452748fc4356ea095c7", checked := Tryz.checked }
namespace Rows
def none {H : Type} : Left H := { results := [], args := [] }

/- WHAT THE LISTED PACKAGE-LEVEL VARIABLES READ AS WHEN THE CALL BEGINS. Each datum BY PROGRAM (the guide's laid-datum.mjs) off the statement by which the dump's own 'gosem.cut.vars' lays the variable. In a bare row this is a premise. The card (YtlhobpknflobgaaGreatDoorCards.lean) ties it to the program's text. -/
def laid_pleach_atoms_letters {H : Type} : DataW H := .agg [.agg [.lit (.int .u8 97), .lit (.int .u8 122)], .agg [.lit (.int .u8 65), .lit (.int .u8 90)], .agg [.lit (.int .u8 48), .lit (.int .u8 57)], .agg [.lit (.int .u8 95), .lit (.int .u8 95)]]

/-- 'pleachlaw11.GuardEach': WHATEVER THE INPUT: true; the input reads as it did. -/
def guardEachSpec : ChangeSpec := { name := "guardEach", fn := fun _ => fun
  | [d1, d2, d3, d4] => { results := [.lit (.bool true)], args := [d1, d2, d3, d4] }
  | _ => none }
def guardEachRow : OpenClaim := { program := "ytlhobpknflobgaagreatdoor", sum := "ea2c4fe0be445ea741ce70a05b9d8f090490dc5b59a90452748fc4356ea095c7", func := "pleach/pleachlaw11.GuardEach", spec := "guardEach", unfollowed := true, recurses := true, named := ["pleach/atoms.letters"], loops := true, apart := false, laid := [("pleach/atoms.letters", laid_pleach_atoms_letters)] }
def GuardEachSaid : Prop := guardEachRow.holds Tryz.pinned (OpenSpec.ofChange guardEachSpec)

/-- ITS FALSE NEIGHBOUR: 'it returns false'. Refute it at one input. -/
def guardEachWrong : ChangeSpec := { name := "guardEach", fn := fun _ => fun
  | [d1, d2, d3, d4] => { results := [.lit (.bool false)], args := [d1, d2, d3, d4] }
  | _ => none }
def GuardEachWrongFalsely : Prop := guardEachRow.holds Tryz.pinned (OpenSpec.ofChange guardEachWrong)

/-- 'pleachlaw11.GuardTells': WHATEVER THE INPUT: true; the input reads as it did. -/
def guardTellsSpec : ChangeSpec := { name := "guardTells", fn := fun _ => fun
  | [d1, d2, d3] => { results := [.lit (.bool true)], args := [d1, d2, d3] }
  | _ => none }
def guardTellsRow : OpenClaim := { program := "ytlhobpknflobgaagreatdoor", sum := "ea2c4fe0be445ea741ce70a05b9d8f090490dc5b59a90452748fc4356ea095c7", func := "pleach/pleachlaw11.GuardTells", spec := "guardTells", inPlace := ["internal/reflectlite.TypeOf"], unfollowed := true, recurses := true, named := ["pleach/atoms.letters"], loops := true, apart := false, laid := [("pleach/atoms.letters", laid_pleach_atoms_letters)] }
def GuardTellsSaid : Prop := guardTellsRow.holds Tryz.pinned (OpenSpec.ofChange guardTellsSpec)

/-- ITS FALSE NEIGHBOUR: 'it returns false'. Refute it at one input. -/
def guardTellsWrong : ChangeSpec := { name := "guardTells", fn := fun _ => fun
  | [d1, d2, d3] => { results := [.lit (.bool false)], args := [d1, d2, d3] }
  | _ => none }
def GuardTellsWrongFalsely : Prop := guardTellsRow.holds Tryz.pinned (OpenSpec.ofChange guardTellsWrong)

/-- 'pleachlaw11.GuardNots': WHATEVER THE INPUT: true; the input reads as it did. -/
def guardNotsSpec : ChangeSpec := { name := "guardNots", fn := fun _ => fun
  | [d1, d2, d3] => { results := [.lit (.bool true)], args := [d1, d2, d3] }
  | _ => none }
def guardNotsRow : OpenClaim := { program := "ytlhobpknflobgaagreatdoor", sum := "ea2c4fe0be445ea741ce70a05b9d8f090490dc5b59a90452748fc4356ea095c7", func := "pleach/pleachlaw11.GuardNots", spec := "guardNots", inPlace := ["internal/reflectlite.TypeOf"], unfollowed := true, recurses := true, named := ["pleach/atoms.letters"], loops := true, apart := false, laid := [("pleach/atoms.letters", laid_pleach_atoms_letters)] }
def GuardNotsSaid : Prop := guardNotsRow.holds Tryz.pinned (OpenSpec.ofChange guardNotsSpec)

/-- ITS FALSE NEIGHBOUR: 'it returns false'. Refute it at one input. -/
def guardNotsWrong : ChangeSpec := { name := "guardNots", fn := fun _ => fun
  | [d1, d2, d3] => { results := [.lit (.bool false)], args := [d1, d2, d3] }
  | _ => none }
def GuardNotsWrongFalsely : Prop := guardNotsRow.holds Tryz.pinned (OpenSpec.ofChange guardNotsWrong)

/-- 'pleachlaw11.GuardFirst': WHATEVER THE INPUT: true; the input reads as it did. -/
def guardFirstSpec : ChangeSpec := { name := "guardFirst", fn := fun _ => fun
  | [d1, d2, d3] => { results := [.lit (.bool true)], args := [d1, d2, d3] }
  | _ => none }
def guardFirstRow : OpenClaim := { program := "ytlhobpknflobgaagreatdoor", sum := "ea2c4fe0be445ea741ce70a05b9d8f090490dc5b59a90452748fc4356ea095c7", func := "pleach/pleachlaw11.GuardFirst", spec := "guardFirst", inPlace := ["internal/reflectlite.TypeOf"], unfollowed := true, recurses := true, named := ["pleach/atoms.letters"], loops := true, apart := false, laid := [("pleach/atoms.letters", laid_pleach_atoms_letters)] }
def GuardFirstSaid : Prop := guardFirstRow.holds Tryz.pinned (OpenSpec.ofChange guardFirstSpec)

/-- ITS FALSE NEIGHBOUR: 'it returns false'. Refute it at one input. -/
def guardFirstWrong : ChangeSpec := { name := "guardFirst", fn := fun _ => fun
  | [d1, d2, d3] => { results := [.lit (.bool false)], args := [d1, d2, d3] }
  | _ => none }
def GuardFirstWrongFalsely : Prop := guardFirstRow.holds Tryz.pinned (OpenSpec.ofChange guardFirstWrong)

/-- 'pleachlaw17.MailSelects': WHATEVER THE INPUT: true; the input reads as it did. -/
def mailSelectsSpec : ChangeSpec := { name := "mailSelects", fn := fun _ => fun
  | [d1, d2, d3] => { results := [.lit (.bool true)], args := [d1, d2, d3] }
  | _ => none }
def mailSelectsRow : OpenClaim := { program := "ytlhobpknflobgaagreatdoor", sum := "ea2c4fe0be445ea741ce70a05b9d8f090490dc5b59a90452748fc4356ea095c7", func := "pleach/pleachlaw17.MailSelects", spec := "mailSelects", unfollowed := true, recurses := true, named := ["pleach/atoms.letters"], loops := true, apart := false, laid := [("pleach/atoms.letters", laid_pleach_atoms_letters)] }
def MailSelectsSaid : Prop := mailSelectsRow.holds Tryz.pinned (OpenSpec.ofChange mailSelectsSpec)

/-- ITS FALSE NEIGHBOUR: 'it returns false'. Refute it at one input. -/
def mailSelectsWrong : ChangeSpec := { name := "mailSelects", fn := fun _ => fun
  | [d1, d2, d3] => { results := [.lit (.bool false)], args := [d1, d2, d3] }
  | _ => none }
def MailSelectsWrongFalsely : Prop := mailSelectsRow.holds Tryz.pinned (OpenSpec.ofChange mailSelectsWrong)

/-- 'pleachlaw17.MailOldest': WHATEVER THE INPUT: true; the input reads as it did. -/
def mailOldestSpec : ChangeSpec := { name := "mailOldest", fn := fun _ => fun
  | [d1, d2, d3, d4, d5] => { results := [.lit (.bool true)], args := [d1, d2, d3, d4, d5] }
  | _ => none }
def mailOldestRow : OpenClaim := { program := "ytlhobpknflobgaagreatdoor", sum := "ea2c4fe0be445ea741ce70a05b9d8f090490dc5b59a90452748fc4356ea095c7", func := "pleach/pleachlaw17.MailOldest", spec := "mailOldest", unfollowed := true, recurses := true, named := ["pleach/atoms.letters"], loops := true, apart := false, laid := [("pleach/atoms.letters", laid_pleach_atoms_letters)] }
def MailOldestSaid : Prop := mailOldestRow.holds Tryz.pinned (OpenSpec.ofChange mailOldestSpec)

/-- ITS FALSE NEIGHBOUR: 'it returns false'. Refute it at one input. -/
def mailOldestWrong : ChangeSpec := { name := "mailOldest", fn := fun _ => fun
  | [d1, d2, d3, d4, d5] => { results := [.lit (.bool false)], args := [d1, d2, d3, d4, d5] }
  | _ => none }
def MailOldestWrongFalsely : Prop := mailOldestRow.holds Tryz.pinned (OpenSpec.ofChange mailOldestWrong)

/-- 'pleachlaw17.MailRows': WHATEVER THE INPUT: true; the input reads as it did. -/
def mailRowsSpec : ChangeSpec := { name := "mailRows", fn := fun _ => fun
  | [d1, d2, d3, d4, d5, d6] => { results := [.lit (.bool true)], args := [d1, d2, d3, d4, d5, d6] }
  | _ => none }
def mailRowsRow : OpenClaim := { program := "ytlhobpknflobgaagreatdoor", sum := "ea2c4fe0be445ea741ce70a05b9d8f090490dc5b59a90452748fc4356ea095c7", func := "pleach/pleachlaw17.MailRows", spec := "mailRows", unfollowed := true, recurses := true, named := ["pleach/atoms.letters"], loops := true, apart := false, laid := [("pleach/atoms.letters", laid_pleach_atoms_letters)] }
def MailRowsSaid : Prop := mailRowsRow.holds Tryz.pinned (OpenSpec.ofChange mailRowsSpec)

/-- ITS FALSE NEIGHBOUR: 'it returns false'. Refute it at one input. -/
def mailRowsWrong : ChangeSpec := { name := "mailRows", fn := fun _ => fun
  | [d1, d2, d3, d4, d5, d6] => { results := [.lit (.bool false)], args := [d1, d2, d3, d4, d5, d6] }
  | _ => none }
def MailRowsWrongFalsely : Prop := mailRowsRow.holds Tryz.pinned (OpenSpec.ofChange mailRowsWrong)

/-- 'pleachlaw17.MailTaken': WHATEVER THE INPUT: true; the input reads as it did. -/
def mailTakenSpec : ChangeSpec := { name := "mailTaken", fn := fun _ => fun
  | [d1, d2, d3, d4] => { results := [.lit (.bool true)], args := [d1, d2, d3, d4] }
  | _ => none }
def mailTakenRow : OpenClaim := { program := "ytlhobpknflobgaagreatdoor", sum := "ea2c4fe0be445ea741ce70a05b9d8f090490dc5b59a90452748fc4356ea095c7", func := "pleach/pleachlaw17.MailTaken", spec := "mailTaken", unfollowed := true, recurses := true, named := ["pleach/atoms.letters"], loops := true, apart := false, laid := [("pleach/atoms.letters", laid_pleach_atoms_letters)] }
def MailTakenSaid : Prop := mailTakenRow.holds Tryz.pinned (OpenSpec.ofChange mailTakenSpec)

/-- ITS FALSE NEIGHBOUR: 'it returns false'. Refute it at one input. -/
def mailTakenWrong : ChangeSpec := { name := "mailTaken", fn := fun _ => fun
  | [d1, d2, d3, d4] => { results := [.lit (.bool false)], args := [d1, d2, d3, d4] }
  | _ => none }
def MailTakenWrongFalsely : Prop := mailTakenRow.holds Tryz.pinned (OpenSpec.ofChange mailTakenWrong)

/- THE SECOND FORM. 'bulk': how many values and letters a reading holds, each counted each time it is reached (what is shared counts as often as it is met; a slice's spare places count too). A statement '..UptoSaid' is the law's where the arguments, and the package variables that the reading takes, are together of bulk at most 1048576: NARROWER than '..Said'. Prove '..Said' where nothing that the law and all that it calls make is longer than what came in: it says more and counts as full. Else prove '..UptoSaid'. A law counts once. -/
mutual
def uptoBulk {H : Type} : DataW H → Nat
  | .lit (.string bytes) => bytes.length + 1
  | .lit _ => 1
  | .nil => 1
  | .ptr d => uptoBulk d + 1
  | .slice elems spare => uptoBulkAll elems + uptoBulkAll spare + 1
  | .agg parts => uptoBulkAll parts + 1
  | .iface _ d => uptoBulk d + 1
  | .map entries => uptoBulkEntries entries + 1
  | .held _ => 1
def uptoBulkAll {H : Type} : List (DataW H) → Nat
  | [] => 0
  | d :: r => uptoBulk d + uptoBulkAll r
def uptoBulkEntries {H : Type} : List (Lit × DataW H) → Nat
  | [] => 0
  | x :: r => uptoBulkEntry x + uptoBulkEntries r
def uptoBulkEntry {H : Type} : Lit × DataW H → Nat
  | (.string bytes, d) => bytes.length + uptoBulk d + 1
  | (_, d) => uptoBulk d + 1
 end
def uptoSmall : (H : Type) → List (DataW H) → Bool := fun _ ds => decide (uptoBulkAll ds ≤ 1048576)
def OpenSpec.upto (s : _root_.Go.ChangeSpec) : _root_.Go.OpenSpec := { _root_.Go.OpenSpec.ofChange s with cond := some uptoSmall }

/-- 'pleachlaw11.GuardEach', WHERE WHAT IT READS IS OF BULK AT MOST 1048576: true; the input reads as it did. -/
def guardEachUptoRow : OpenClaim := { program := "ytlhobpknflobgaagreatdoor", sum := "ea2c4fe0be445ea741ce70a05b9d8f090490dc5b59a90452748fc4356ea095c7", func := "pleach/pleachlaw11.GuardEach", spec := "guardEach", unfollowed := true, recurses := true, named := ["pleach/atoms.letters"], loops := true, apart := false, laid := [("pleach/atoms.letters", laid_pleach_atoms_letters)], narrowed := true }
def GuardEachUptoSaid : Prop := guardEachUptoRow.holds Tryz.pinned (OpenSpec.upto guardEachSpec)

/-- 'pleachlaw11.GuardTells', WHERE WHAT IT READS IS OF BULK AT MOST 1048576: true; the input reads as it did. -/
def guardTellsUptoRow : OpenClaim := { program := "ytlhobpknflobgaagreatdoor", sum := "ea2c4fe0be445ea741ce70a05b9d8f090490dc5b59a90452748fc4356ea095c7", func := "pleach/pleachlaw11.GuardTells", spec := "guardTells", inPlace := ["internal/reflectlite.TypeOf"], unfollowed := true, recurses := true, named := ["pleach/atoms.letters"], loops := true, apart := false, laid := [("pleach/atoms.letters", laid_pleach_atoms_letters)], narrowed := true }
def GuardTellsUptoSaid : Prop := guardTellsUptoRow.holds Tryz.pinned (OpenSpec.upto guardTellsSpec)

/-- 'pleachlaw11.GuardNots', WHERE WHAT IT READS IS OF BULK AT MOST 1048576: true; the input reads as it did. -/
def guardNotsUptoRow : OpenClaim := { program := "ytlhobpknflobgaagreatdoor", sum := "ea2c4fe0be445ea741ce70a05b9d8f090490dc5b59a90452748fc4356ea095c7", func := "pleach/pleachlaw11.GuardNots", spec := "guardNots", inPlace := ["internal/reflectlite.TypeOf"], unfollowed := true, recurses := true, named := ["pleach/atoms.letters"], loops := true, apart := false, laid := [("pleach/atoms.letters", laid_pleach_atoms_letters)], narrowed := true }
def GuardNotsUptoSaid : Prop := guardNotsUptoRow.holds Tryz.pinned (OpenSpec.upto guardNotsSpec)

/-- 'pleachlaw11.GuardFirst', WHERE WHAT IT READS IS OF BULK AT MOST 1048576: true; the input reads as it did. -/
def guardFirstUptoRow : OpenClaim := { program := "ytlhobpknflobgaagreatdoor", sum := "ea2c4fe0be445ea741ce70a05b9d8f090490dc5b59a90452748fc4356ea095c7", func := "pleach/pleachlaw11.GuardFirst", spec := "guardFirst", inPlace := ["internal/reflectlite.TypeOf"], unfollowed := true, recurses := true, named := ["pleach/atoms.letters"], loops := true, apart := false, laid := [("pleach/atoms.letters", laid_pleach_atoms_letters)], narrowed := true }
def GuardFirstUptoSaid : Prop := guardFirstUptoRow.holds Tryz.pinned (OpenSpec.upto guardFirstSpec)

/-- 'pleachlaw17.MailSelects', WHERE WHAT IT READS IS OF BULK AT MOST 1048576: true; the input reads as it did. -/
def mailSelectsUptoRow : OpenClaim := { program := "ytlhobpknflobgaagreatdoor", sum := "ea2c4fe0be445ea741ce70a05b9d8f090490dc5b59a90452748fc4356ea095c7", func := "pleach/pleachlaw17.MailSelects", spec := "mailSelects", unfollowed := true, recurses := true, named := ["pleach/atoms.letters"], loops := true, apart := false, laid := [("pleach/atoms.letters", laid_pleach_atoms_letters)], narrowed := true }
def MailSelectsUptoSaid : Prop := mailSelectsUptoRow.holds Tryz.pinned (OpenSpec.upto mailSelectsSpec)

/-- 'pleachlaw17.MailOldest', WHERE WHAT IT READS IS OF BULK AT MOST 1048576: true; the input reads as it did. -/
def mailOldestUptoRow : OpenClaim := { program := "ytlhobpknflobgaagreatdoor", sum := "ea2c4fe0be445ea741ce70a05b9d8f090490dc5b59a90452748fc4356ea095c7", func := "pleach/pleachlaw17.MailOldest", spec := "mailOldest", unfollowed := true, recurses := true, named := ["pleach/atoms.letters"], loops := true, apart := false, laid := [("pleach/atoms.letters", laid_pleach_atoms_letters)], narrowed := true }
def MailOldestUptoSaid : Prop := mailOldestUptoRow.holds Tryz.pinned (OpenSpec.upto mailOldestSpec)

/-- 'pleachlaw17.MailRows', WHERE WHAT IT READS IS OF BULK AT MOST 1048576: true; the input reads as it did. -/
def mailRowsUptoRow : OpenClaim := { program := "ytlhobpknflobgaagreatdoor", sum := "ea2c4fe0be445ea741ce70a05b9d8f090490dc5b59a90452748fc4356ea095c7", func := "pleach/pleachlaw17.MailRows", spec := "mailRows", unfollowed := true, recurses := true, named := ["pleach/atoms.letters"], loops := true, apart := false, laid := [("pleach/atoms.letters", laid_pleach_atoms_letters)], narrowed := true }
def MailRowsUptoSaid : Prop := mailRowsUptoRow.holds Tryz.pinned (OpenSpec.upto mailRowsSpec)

/-- 'pleachlaw17.MailTaken', WHERE WHAT IT READS IS OF BULK AT MOST 1048576: true; the input reads as it did. -/
def mailTakenUptoRow : OpenClaim := { program := "ytlhobpknflobgaagreatdoor", sum := "ea2c4fe0be445ea741ce70a05b9d8f090490dc5b59a90452748fc4356ea095c7", func := "pleach/pleachlaw17.MailTaken", spec := "mailTaken", unfollowed := true, recurses := true, named := ["pleach/atoms.letters"], loops := true, apart := false, laid := [("pleach/atoms.letters", laid_pleach_atoms_letters)], narrowed := true }
def MailTakenUptoSaid : Prop := mailTakenUptoRow.holds Tryz.pinned (OpenSpec.upto mailTakenSpec)

end Rows
end Go.Proofs.YtlhobpknflobgaaGreatDoor
