/-
  Whether the row of StepSays starts goroutines. No condition.
-/
import Derived.Test.YtkieoghkjjkapaaGreatDoorJf26
import Derived.SevenTiedAt
namespace Go.Proofs.YtkieoghkjjkapaaGreatDoor.Rdb
open Go.ChangeShapes Go.WideShapes Go.ChangeAt Go.RowKit Go.Joins
set_option maxRecDepth 100000
theorem goes_jf : false = Rows.stepSaysRow.goesBy Tryz.prog := by kernel_rfl
end Go.Proofs.YtkieoghkjjkapaaGreatDoor.Rdb
