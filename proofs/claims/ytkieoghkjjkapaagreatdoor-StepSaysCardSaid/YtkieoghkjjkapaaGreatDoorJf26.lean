/-
  What the row of StepSays names is what the program forces: fact by fact. No condition.
-/
import Derived.Test.YtkieoghkjjkapaaGreatDoorRf5
import Derived.Test.YtkieoghkjjkapaaGreatDoorCards
import Derived.SevenTiedAt
namespace Go.Proofs.YtkieoghkjjkapaaGreatDoor.Rdb
open Go.ChangeShapes Go.WideShapes Go.ChangeAt Go.RowKit Go.Joins
set_option maxRecDepth 100000
theorem recurses_jf : (Rows.stepSaysRow.recurses == Tryz.prog.recurses 3) = true := by kernel_rfl
theorem named_jf : (Rows.stepSaysRow.named == Tryz.prog.varsNamed 3) = true := by kernel_rfl
theorem unfollowed_jf : (Rows.stepSaysRow.unfollowed == Tryz.prog.unfollowed 3) = true := by kernel_rfl
theorem inPlace_jf : (Rows.stepSaysRow.inPlace == Tryz.prog.inPlace 3) = true := by kernel_rfl
theorem laidOut_jf : (laidOutB Tryz.prog) = true := by kernel_rfl
theorem mapsRowed_jf : (mapsRowed Tryz.prog) = true := by kernel_rfl
theorem joined_jf : joinedFacts Tryz.prog 3 Tryz.f3 Rows.stepSaysSpec Rows.stepSaysRow = true := by
  unfold joinedFacts
  rw [recurses_jf, named_jf, unfollowed_jf, inPlace_jf, laidOut_jf, mapsRowed_jf]
  kernel_rfl
end Go.Proofs.YtkieoghkjjkapaaGreatDoor.Rdb
