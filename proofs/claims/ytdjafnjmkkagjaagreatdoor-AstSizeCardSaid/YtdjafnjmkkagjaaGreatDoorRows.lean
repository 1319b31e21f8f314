/-
  NARROWER THAN 'FOR EVERY INPUT', by the rows' own cells (each row's printed sentence says how): SpecRestarts: loops, laid · SpecTwice: loops, laid · SpecBack: loops, laid · AstSize: loops, laid · AstParts: loops, laid · AstWraps: loops, laid · AstOne: loops, laid.
  DERIVED. THE GIVEN ROWS OF THIS SEAT. 7 by the template 'for every input the law returns true; each argument reads behind the call as it read before'; 0 by the template 'total and deterministic' (their statements: YtdjafnjmkkagjaaGreatDoorTotals.lean).
  GIVEN WITH THE SEED: the statements are not yours to turn. If you find one false, say at which input.
  Laid BY PROGRAM, IN A SANDBOX (cutbox-rows.mjs): the forced cells as the released guide's own fill.sh prints them over the translation c8fafaedc71c4c8b… (all of the seat's roots in one cut). By AI agents, Wed Nov 11 2026. No macro, syntax, notation, axiom, sorry.
-/
import Derived.Test.YtdjafnjmkkagjaaGreatDoorChecked
import GoSem.Claim
import GoSem.ClaimJoined
import GoSem.ClaimMapViews
import Derived.JoinedTies
import Derived.KernelRfl
namespace Go.Proofs.YtdjafnjmkkagjaaGreatDoor
/- THE CELL 'sum', in the pinned program and in every row, IS THE sha256 OF THE DUMP (.gsa) THAT YtdjafnjmkkagjaaGreatDoorProg.lean LOADS. Nothing in Lean hashes anything: it is a label: what it is worth is what the hold of that sum in a sandbox is worth. -/
noncomputable def Tryz.pinned : Pinned := { name := "ytdjafnjmkkagjaagreatdoor", sum := "c8fafaedc71c4c8b4c43b4ee1bcf8b2899bba63caf22a307fd4a9de09432ec63", checked := Tryz.checked }
namespace Rows
def none {H : Type} : Left H := { results := [], args := [] }

/- WHAT THE LISTED PACKAGE-LEVEL VARIABLES READ AS WHEN THE CALL BEGINS. Each datum BY PROGRAM (the guide's laid-datum.mjs) off the statement by which the dump's own 'gosem.cut.vars' lays the variable. In a bare row this is a premise. The card (YtdjafnjmkkagjaaGreatDoorCards.lean) ties it to the program's text. -/
def laid_errors_errorType {H : Type} : DataW H := .iface "internal/reflectlite.rtype" (.agg [.ptr (.lit (.string [101, 114, 114, 111, 114]))])
def laid_pleach_atoms_letters {H : Type} : DataW H := .agg [.agg [.lit (.int .u8 97), .lit (.int .u8 122)], .agg [.lit (.int .u8 65), .lit (.int .u8 90)], .agg [.lit (.int .u8 48), .lit (.int .u8 57)], .agg [.lit (.int .u8 95), .lit (.int .u8 95)]]
def laid_math_bits_deBruijn32tab {H : Type} : DataW H := .agg [.lit (.int .u8 0), .lit (.int .u8 1), .lit (.int .u8 28), .lit (.int .u8 2), .lit (.int .u8 29), .lit (.int .u8 14), .lit (.int .u8 24), .lit (.int .u8 3), .lit (.int .u8 30), .lit (.int .u8 22), .lit (.int .u8 20), .lit (.int .u8 15), .lit (.int .u8 25), .lit (.int .u8 17), .lit (.int .u8 4), .lit (.int .u8 8), .lit (.int .u8 31), .lit (.int .u8 27), .lit (.int .u8 13), .lit (.int .u8 23), .lit (.int .u8 21), .lit (.int .u8 19), .lit (.int .u8 16), .lit (.int .u8 7), .lit (.int .u8 26), .lit (.int .u8 12), .lit (.int .u8 18), .lit (.int .u8 6), .lit (.int .u8 11), .lit (.int .u8 5), .lit (.int .u8 10), .lit (.int .u8 9)]
def laid_math_bits_deBruijn64tab {H : Type} : DataW H := .agg [.lit (.int .u8 0), .lit (.int .u8 1), .lit (.int .u8 56), .lit (.int .u8 2), .lit (.int .u8 57), .lit (.int .u8 49), .lit (.int .u8 28), .lit (.int .u8 3), .lit (.int .u8 61), .lit (.int .u8 58), .lit (.int .u8 42), .lit (.int .u8 50), .lit (.int .u8 38), .lit (.int .u8 29), .lit (.int .u8 17), .lit (.int .u8 4), .lit (.int .u8 62), .lit (.int .u8 47), .lit (.int .u8 59), .lit (.int .u8 36), .lit (.int .u8 45), .lit (.int .u8 43), .lit (.int .u8 51), .lit (.int .u8 22), .lit (.int .u8 53), .lit (.int .u8 39), .lit (.int .u8 33), .lit (.int .u8 30), .lit (.int .u8 24), .lit (.int .u8 18), .lit (.int .u8 12), .lit (.int .u8 5), .lit (.int .u8 63), .lit (.int .u8 55), .lit (.int .u8 48), .lit (.int .u8 27), .lit (.int .u8 60), .lit (.int .u8 41), .lit (.int .u8 37), .lit (.int .u8 16), .lit (.int .u8 46), .lit (.int .u8 35), .lit (.int .u8 44), .lit (.int .u8 21), .lit (.int .u8 52), .lit (.int .u8 32), .lit (.int .u8 23), .lit (.int .u8 11), .lit (.int .u8 54), .lit (.int .u8 26), .lit (.int .u8 40), .lit (.int .u8 15), .lit (.int .u8 34), .lit (.int .u8 20), .lit (.int .u8 31), .lit (.int .u8 10), .lit (.int .u8 25), .lit (.int .u8 14), .lit (.int .u8 19), .lit (.int .u8 9), .lit (.int .u8 13), .lit (.int .u8 8), .lit (.int .u8 7), .lit (.int .u8 6)]
def laid_internal_strconv_uint64pow10 {H : Type} : DataW H := .agg [.lit (.int .u64 1), .lit (.int .u64 10), .lit (.int .u64 100), .lit (.int .u64 1000), .lit (.int .u64 10000), .lit (.int .u64 100000), .lit (.int .u64 1000000), .lit (.int .u64 10000000), .lit (.int .u64 100000000), .lit (.int .u64 1000000000), .lit (.int .u64 10000000000), .lit (.int .u64 100000000000), .lit (.int .u64 1000000000000), .lit (.int .u64 10000000000000), .lit (.int .u64 100000000000000), .lit (.int .u64 1000000000000000), .lit (.int .u64 10000000000000000), .lit (.int .u64 100000000000000000), .lit (.int .u64 1000000000000000000), .lit (.int .u64 10000000000000000000)]

/-- 'pleachlaw25.SpecRestarts': WHATEVER THE INPUT: true; the input reads as it did. -/
def specRestartsSpec : ChangeSpec := { name := "specRestarts", fn := fun _ => fun
  | [d1, d2] => { results := [.lit (.bool true)], args := [d1, d2] }
  | _ => none }
def specRestartsRow : OpenClaim := { program := "ytdjafnjmkkagjaagreatdoor", sum := "c8fafaedc71c4c8b4c43b4ee1bcf8b2899bba63caf22a307fd4a9de09432ec63", func := "pleach/pleachlaw25.SpecRestarts", spec := "specRestarts", inPlace := ["internal/reflectlite.ValueOf", "(internal/reflectlite.Value).Type", "(internal/reflectlite.Value).IsNil", "internal/reflectlite.TypeOf", "(internal/reflectlite.Value).Elem", "(internal/reflectlite.Value).Set"], unfollowed := true, recurses := true, named := ["pleach/atoms.letters", "errors.errorType"], loops := true, apart := false, laid := [("errors.errorType", laid_errors_errorType), ("pleach/atoms.letters", laid_pleach_atoms_letters)] }
def SpecRestartsSaid : Prop := specRestartsRow.holds Tryz.pinned (OpenSpec.ofChange specRestartsSpec)

/-- ITS FALSE NEIGHBOUR: 'it returns false'. Refute it at one input. -/
def specRestartsWrong : ChangeSpec := { name := "specRestarts", fn := fun _ => fun
  | [d1, d2] => { results := [.lit (.bool false)], args := [d1, d2] }
  | _ => none }
def SpecRestartsWrongFalsely : Prop := specRestartsRow.holds Tryz.pinned (OpenSpec.ofChange specRestartsWrong)

/-- 'pleachlaw25.SpecTwice': WHATEVER THE INPUT: true; the input reads as it did. -/
def specTwiceSpec : ChangeSpec := { name := "specTwice", fn := fun _ => fun
  | [d1, d2] => { results := [.lit (.bool true)], args := [d1, d2] }
  | _ => none }
def specTwiceRow : OpenClaim := { program := "ytdjafnjmkkagjaagreatdoor", sum := "c8fafaedc71c4c8b4c43b4ee1bcf8b2899bba63caf22a307fd4a9de09432ec63", func := "pleach/pleachlaw25.SpecTwice", spec := "specTwice", inPlace := ["internal/reflectlite.ValueOf", "(internal/reflectlite.Value).Type", "(internal/reflectlite.Value).IsNil", "internal/reflectlite.TypeOf", "(internal/reflectlite.Value).Elem", "(internal/reflectlite.Value).Set"], unfollowed := true, recurses := true, named := ["pleach/atoms.letters", "errors.errorType"], loops := true, apart := false, laid := [("errors.errorType", laid_errors_errorType), ("pleach/atoms.letters", laid_pleach_atoms_letters)] }
def SpecTwiceSaid : Prop := specTwiceRow.holds Tryz.pinned (OpenSpec.ofChange specTwiceSpec)

/-- ITS FALSE NEIGHBOUR: 'it returns false'. Refute it at one input. -/
def specTwiceWrong : ChangeSpec := { name := "specTwice", fn := fun _ => fun
  | [d1, d2] => { results := [.lit (.bool false)], args := [d1, d2] }
  | _ => none }
def SpecTwiceWrongFalsely : Prop := specTwiceRow.holds Tryz.pinned (OpenSpec.ofChange specTwiceWrong)

/-- 'pleachlaw25.SpecBack': WHATEVER THE INPUT: true; the input reads as it did. -/
def specBackSpec : ChangeSpec := { name := "specBack", fn := fun _ => fun
  | [d1, d2, d3, d4] => { results := [.lit (.bool true)], args := [d1, d2, d3, d4] }
  | _ => none }
def specBackRow : OpenClaim := { program := "ytdjafnjmkkagjaagreatdoor", sum := "c8fafaedc71c4c8b4c43b4ee1bcf8b2899bba63caf22a307fd4a9de09432ec63", func := "pleach/pleachlaw25.SpecBack", spec := "specBack", inPlace := ["internal/reflectlite.ValueOf", "(internal/reflectlite.Value).Type", "(internal/reflectlite.Value).IsNil", "internal/reflectlite.TypeOf", "(internal/reflectlite.Value).Elem", "(internal/reflectlite.Value).Set"], unfollowed := true, recurses := true, named := ["pleach/atoms.letters", "errors.errorType"], loops := true, apart := false, laid := [("errors.errorType", laid_errors_errorType), ("pleach/atoms.letters", laid_pleach_atoms_letters)] }
def SpecBackSaid : Prop := specBackRow.holds Tryz.pinned (OpenSpec.ofChange specBackSpec)

/-- ITS FALSE NEIGHBOUR: 'it returns false'. Refute it at one input. -/
def specBackWrong : ChangeSpec := { name := "specBack", fn := fun _ => fun
  | [d1, d2, d3, d4] => { results := [.lit (.bool false)], args := [d1, d2, d3, d4] }
  | _ => none }
def SpecBackWrongFalsely : Prop := specBackRow.holds Tryz.pinned (OpenSpec.ofChange specBackWrong)

/-- 'pleachlaw07.AstSize': WHATEVER THE INPUT: true; the input reads as it did. -/
def astSizeSpec : ChangeSpec := { name := "astSize", fn := fun _ => fun
  | [d] => { results := [.lit (.bool true)], args := [d] }
  | _ => none }
def astSizeRow : OpenClaim := { program := "ytdjafnjmkkagjaagreatdoor", sum := "c8fafaedc71c4c8b4c43b4ee1bcf8b2899bba63caf22a307fd4a9de09432ec63", func := "pleach/pleachlaw07.AstSize", spec := "astSize", inPlace := ["internal/abi.NoEscape"], unfollowed := true, recurses := true, named := ["pleach/atoms.letters", "internal/strconv.uint64pow10", "math/bits.deBruijn32tab", "math/bits.deBruijn64tab"], loops := true, apart := false, laid := [("math/bits.deBruijn32tab", laid_math_bits_deBruijn32tab), ("math/bits.deBruijn64tab", laid_math_bits_deBruijn64tab), ("internal/strconv.uint64pow10", laid_internal_strconv_uint64pow10), ("pleach/atoms.letters", laid_pleach_atoms_letters)] }
def AstSizeSaid : Prop := astSizeRow.holds Tryz.pinned (OpenSpec.ofChange astSizeSpec)

/-- ITS FALSE NEIGHBOUR: 'it returns false'. Refute it at one input. -/
def astSizeWrong : ChangeSpec := { name := "astSize", fn := fun _ => fun
  | [d] => { results := [.lit (.bool false)], args := [d] }
  | _ => none }
def AstSizeWrongFalsely : Prop := astSizeRow.holds Tryz.pinned (OpenSpec.ofChange astSizeWrong)

/-- 'pleachlaw07.AstParts': WHATEVER THE INPUT: true; the input reads as it did. -/
def astPartsSpec : ChangeSpec := { name := "astParts", fn := fun _ => fun
  | [d] => { results := [.lit (.bool true)], args := [d] }
  | _ => none }
def astPartsRow : OpenClaim := { program := "ytdjafnjmkkagjaagreatdoor", sum := "c8fafaedc71c4c8b4c43b4ee1bcf8b2899bba63caf22a307fd4a9de09432ec63", func := "pleach/pleachlaw07.AstParts", spec := "astParts", inPlace := ["internal/abi.NoEscape"], unfollowed := true, recurses := true, named := ["pleach/atoms.letters", "internal/strconv.uint64pow10", "math/bits.deBruijn32tab", "math/bits.deBruijn64tab"], loops := true, apart := false, laid := [("math/bits.deBruijn32tab", laid_math_bits_deBruijn32tab), ("math/bits.deBruijn64tab", laid_math_bits_deBruijn64tab), ("internal/strconv.uint64pow10", laid_internal_strconv_uint64pow10), ("pleach/atoms.letters", laid_pleach_atoms_letters)] }
def AstPartsSaid : Prop := astPartsRow.holds Tryz.pinned (OpenSpec.ofChange astPartsSpec)

/-- ITS FALSE NEIGHBOUR: 'it returns false'. Refute it at one input. -/
def astPartsWrong : ChangeSpec := { name := "astParts", fn := fun _ => fun
  | [d] => { results := [.lit (.bool false)], args := [d] }
  | _ => none }
def AstPartsWrongFalsely : Prop := astPartsRow.holds Tryz.pinned (OpenSpec.ofChange astPartsWrong)

/-- 'pleachlaw07.AstWraps': WHATEVER THE INPUT: true; the input reads as it did. -/
def astWrapsSpec : ChangeSpec := { name := "astWraps", fn := fun _ => fun
  | [d] => { results := [.lit (.bool true)], args := [d] }
  | _ => none }
def astWrapsRow : OpenClaim := { program := "ytdjafnjmkkagjaagreatdoor", sum := "c8fafaedc71c4c8b4c43b4ee1bcf8b2899bba63caf22a307fd4a9de09432ec63", func := "pleach/pleachlaw07.AstWraps", spec := "astWraps", inPlace := ["internal/abi.NoEscape"], unfollowed := true, recurses := true, named := ["pleach/atoms.letters", "internal/strconv.uint64pow10", "math/bits.deBruijn32tab", "math/bits.deBruijn64tab"], loops := true, apart := false, laid := [("math/bits.deBruijn32tab", laid_math_bits_deBruijn32tab), ("math/bits.deBruijn64tab", laid_math_bits_deBruijn64tab), ("internal/strconv.uint64pow10", laid_internal_strconv_uint64pow10), ("pleach/atoms.letters", laid_pleach_atoms_letters)] }
def AstWrapsSaid : Prop := astWrapsRow.holds Tryz.pinned (OpenSpec.ofChange astWrapsSpec)

/-- ITS FALSE NEIGHBOUR: 'it returns false'. Refute it at one input. -/
def astWrapsWrong : ChangeSpec := { name := "astWraps", fn := fun _ => fun
  | [d] => { results := [.lit (.bool false)], args := [d] }
  | _ => none }
def AstWrapsWrongFalsely : Prop := astWrapsRow.holds Tryz.pinned (OpenSpec.ofChange astWrapsWrong)

/-- 'pleachlaw07.AstOne': WHATEVER THE INPUT: true; the input reads as it did. -/
def astOneSpec : ChangeSpec := { name := "astOne", fn := fun _ => fun
  | [d1, d2] => { results := [.lit (.bool true)], args := [d1, d2] }
  | _ => none }
def astOneRow : OpenClaim := { program := "ytdjafnjmkkagjaagreatdoor", sum := "c8fafaedc71c4c8b4c43b4ee1bcf8b2899bba63caf22a307fd4a9de09432ec63", func := "pleach/pleachlaw07.AstOne", spec := "astOne", inPlace := ["internal/abi.NoEscape"], unfollowed := true, recurses := true, named := ["pleach/atoms.letters", "internal/strconv.uint64pow10", "math/bits.deBruijn32tab", "math/bits.deBruijn64tab"], loops := true, apart := false, laid := [("math/bits.deBruijn32tab", laid_math_bits_deBruijn32tab), ("math/bits.deBruijn64tab", laid_math_bits_deBruijn64tab), ("internal/strconv.uint64pow10", laid_internal_strconv_uint64pow10), ("pleach/atoms.letters", laid_pleach_atoms_letters)] }
def AstOneSaid : Prop := astOneRow.holds Tryz.pinned (OpenSpec.ofChange astOneSpec)

/-- ITS FALSE NEIGHBOUR: 'it returns false'. Refute it at one input. -/
def astOneWrong : ChangeSpec := { name := "astOne", fn := fun _ => fun
  | [d1, d2] => { results := [.lit (.bool false)], args := [d1, d2] }
  | _ => none }
def AstOneWrongFalsely : Prop := astOneRow.holds Tryz.pinned (OpenSpec.ofChange astOneWrong)

/- THE SECOND FORM. 'bulk': how many values and letters a reading holds, each counted each time it is reached (what is shared counts as often as it is met; a slice's spare places count too). A statement '..UptoSaid' is the law's where the arguments, and the package variables that the reading takes, are together of bulk at most 1048576: NARROWER than '..Said'. Prove '..Said' where nothing that the law and all that it calls make is longer than what came in: it says more and counts as full. Else prove '..UptoSaid'. A law counts once. -/
mutual
def uptoBulk {H : Type} : DataW H → Nat
  | .lit (.string bytes) => bytes.length + 1
  | .lit _ => 1
  | .nil => 1
  | .ptr d => uptoBulk d + 1
  | .slice elems spare => uptoBulkAll elems + uptoBulkAll spare + 1
  | .agg parts => uptoBulkAll parts + 1
  | .iface _ d => uptoBulk d + 1
  | .map entries => uptoBulkEntries entries + 1
  | .held _ => 1
def uptoBulkAll {H : Type} : List (DataW H) → Nat
  | [] => 0
  | d :: r => uptoBulk d + uptoBulkAll r
def uptoBulkEntries {H : Type} : List (Lit × DataW H) → Nat
  | [] => 0
  | x :: r => uptoBulkEntry x + uptoBulkEntries r
def uptoBulkEntry {H : Type} : Lit × DataW H → Nat
  | (.string bytes, d) => bytes.length + uptoBulk d + 1
  | (_, d) => uptoBulk d + 1
 end
def uptoSmall : (H : Type) → List (DataW H) → Bool := fun _ ds => decide (uptoBulkAll ds ≤ 1048576)
def OpenSpec.upto (s : _root_.Go.ChangeSpec) : _root_.Go.OpenSpec := { _root_.Go.OpenSpec.ofChange s with cond := some uptoSmall }

/-- 'pleachlaw25.SpecRestarts', WHERE WHAT IT READS IS OF BULK AT MOST 1048576: true; the input reads as it did. -/
def specRestartsUptoRow : OpenClaim := { program := "ytdjafnjmkkagjaagreatdoor", sum := "c8fafaedc71c4c8b4c43b4ee1bcf8b2899bba63caf22a307fd4a9de09432ec63", func := "pleach/pleachlaw25.SpecRestarts", spec := "specRestarts", inPlace := ["internal/reflectlite.ValueOf", "(internal/reflectlite.Value).Type", "(internal/reflectlite.Value).IsNil", "internal/reflectlite.TypeOf", "(internal/reflectlite.Value).Elem", "(internal/reflectlite.Value).Set"], unfollowed := true, recurses := true, named := ["pleach/atoms.letters", "errors.errorType"], loops := true, apart := false, laid := [("errors.errorType", laid_errors_errorType), ("pleach/atoms.letters", laid_pleach_atoms_letters)], narrowed := true }
def SpecRestartsUptoSaid : Prop := specRestartsUptoRow.holds Tryz.pinned (OpenSpec.upto specRestartsSpec)

/-- 'pleachlaw25.SpecTwice', WHERE WHAT IT READS IS OF BULK AT MOST 1048576: true; the input reads as it did. -/
def specTwiceUptoRow : OpenClaim := { program := "ytdjafnjmkkagjaagreatdoor", sum := "c8fafaedc71c4c8b4c43b4ee1bcf8b2899bba63caf22a307fd4a9de09432ec63", func := "pleach/pleachlaw25.SpecTwice", spec := "specTwice", inPlace := ["internal/reflectlite.ValueOf", "(internal/reflectlite.Value).Type", "(internal/reflectlite.Value).IsNil", "internal/reflectlite.TypeOf", "(internal/reflectlite.Value).Elem", "(internal/reflectlite.Value).Set"], unfollowed := true, recurses := true, named := ["pleach/atoms.letters", "errors.errorType"], loops := true, apart := false, laid := [("errors.errorType", laid_errors_errorType), ("pleach/atoms.letters", laid_pleach_atoms_letters)], narrowed := true }
def SpecTwiceUptoSaid : Prop := specTwiceUptoRow.holds Tryz.pinned (OpenSpec.upto specTwiceSpec)

/-- 'pleachlaw25.SpecBack', WHERE WHAT IT READS IS OF BULK AT MOST 1048576: true; the input reads as it did. -/
def specBackUptoRow : OpenClaim := { program := "ytdjafnjmkkagjaagreatdoor", sum := "c8fafaedc71c4c8b4c43b4ee1bcf8b2899bba63caf22a307fd4a9de09432ec63", func := "pleach/pleachlaw25.SpecBack", spec := "specBack", inPlace := ["internal/reflectlite.ValueOf", "(internal/reflectlite.Value).Type", "(internal/reflectlite.Value).IsNil", "internal/reflectlite.TypeOf", "(internal/reflectlite.Value).Elem", "(internal/reflectlite.Value).Set"], unfollowed := true, recurses := true, named := ["pleach/atoms.letters", "errors.errorType"], loops := true, apart := false, laid := [("errors.errorType", laid_errors_errorType), ("pleach/atoms.letters", laid_pleach_atoms_letters)], narrowed := true }
def SpecBackUptoSaid : Prop := specBackUptoRow.holds Tryz.pinned (OpenSpec.upto specBackSpec)

/-- 'pleachlaw07.AstSize', WHERE WHAT IT READS IS OF BULK AT MOST 1048576: true; the input reads as it did. -/
def astSizeUptoRow : OpenClaim := { program := "ytdjafnjmkkagjaagreatdoor", sum := "c8fafaedc71c4c8b4c43b4ee1bcf8b2899bba63caf22a307fd4a9de09432ec63", func := "pleach/pleachlaw07.AstSize", spec := "astSize", inPlace := ["internal/abi.NoEscape"], unfollowed := true, recurses := true, named := ["pleach/atoms.letters", "internal/strconv.uint64pow10", "math/bits.deBruijn32tab", "math/bits.deBruijn64tab"], loops := true, apart := false, laid := [("math/bits.deBruijn32tab", laid_math_bits_deBruijn32tab), ("math/bits.deBruijn64tab", laid_math_bits_deBruijn64tab), ("internal/strconv.uint64pow10", laid_internal_strconv_uint64pow10), ("pleach/atoms.letters", laid_pleach_atoms_letters)], narrowed := true }
def AstSizeUptoSaid : Prop := astSizeUptoRow.holds Tryz.pinned (OpenSpec.upto astSizeSpec)

/-- 'pleachlaw07.AstParts', WHERE WHAT IT READS IS OF BULK AT MOST 1048576: true; the input reads as it did. -/
def astPartsUptoRow : OpenClaim := { program := "ytdjafnjmkkagjaagreatdoor", sum := "c8fafaedc71c4c8b4c43b4ee1bcf8b2899bba63caf22a307fd4a9de09432ec63", func := "pleach/pleachlaw07.AstParts", spec := "astParts", inPlace := ["internal/abi.NoEscape"], unfollowed := true, recurses := true, named := ["pleach/atoms.letters", "internal/strconv.uint64pow10", "math/bits.deBruijn32tab", "math/bits.deBruijn64tab"], loops := true, apart := false, laid := [("math/bits.deBruijn32tab", laid_math_bits_deBruijn32tab), ("math/bits.deBruijn64tab", laid_math_bits_deBruijn64tab), ("internal/strconv.uint64pow10", laid_internal_strconv_uint64pow10), ("pleach/atoms.letters", laid_pleach_atoms_letters)], narrowed := true }
def AstPartsUptoSaid : Prop := astPartsUptoRow.holds Tryz.pinned (OpenSpec.upto astPartsSpec)

/-- 'pleachlaw07.AstWraps', WHERE WHAT IT READS IS OF BULK AT MOST 1048576: true; the input reads as it did. -/
def astWrapsUptoRow : OpenClaim := { program := "ytdjafnjmkkagjaagreatdoor", sum := "c8fafaedc71c4c8b4c43b4ee1bcf8b2899bba63caf22a307fd4a9de09432ec63", func := "pleach/pleachlaw07.AstWraps", spec := "astWraps", inPlace := ["internal/abi.NoEscape"], unfollowed := true, recurses := true, named := ["pleach/atoms.letters", "internal/strconv.uint64pow10", "math/bits.deBruijn32tab", "math/bits.deBruijn64tab"], loops := true, apart := false, laid := [("math/bits.deBruijn32tab", laid_math_bits_deBruijn32tab), ("math/bits.deBruijn64tab", laid_math_bits_deBruijn64tab), ("internal/strconv.uint64pow10", laid_internal_strconv_uint64pow10), ("pleach/atoms.letters", laid_pleach_atoms_letters)], narrowed := true }
def AstWrapsUptoSaid : Prop := astWrapsUptoRow.holds Tryz.pinned (OpenSpec.upto astWrapsSpec)

/-- 'pleachlaw07.AstOne', WHERE WHAT IT READS IS OF BULK AT MOST 1048576: true; the input reads as it did. -/
def astOneUptoRow : OpenClaim := { program := "ytdjafnjmkkagjaagreatdoor", sum := "c8fafaedc71c4c8b4c43b4ee1bcf8b2899bba63caf22a307fd4a9de09432ec63", func := "pleach/pleachlaw07.AstOne", spec := "astOne", inPlace := ["internal/abi.NoEscape"], unfollowed := true, recurses := true, named := ["pleach/atoms.letters", "internal/strconv.uint64pow10", "math/bits.deBruijn32tab", "math/bits.deBruijn64tab"], loops := true, apart := false, laid := [("math/bits.deBruijn32tab", laid_math_bits_deBruijn32tab), ("math/bits.deBruijn64tab", laid_math_bits_deBruijn64tab), ("internal/strconv.uint64pow10", laid_internal_strconv_uint64pow10), ("pleach/atoms.letters", laid_pleach_atoms_letters)], narrowed := true }
def AstOneUptoSaid : Prop := astOneUptoRow.holds Tryz.pinned (OpenSpec.upto astOneSpec)

end Rows
end Go.Proofs.YtdjafnjmkkagjaaGreatDoor
