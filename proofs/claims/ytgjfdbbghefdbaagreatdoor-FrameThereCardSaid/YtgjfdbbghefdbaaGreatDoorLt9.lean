/-
  frame.Push of a full stack. Conditions: as said.
-/
import Derived.Test.YtgjfdbbghefdbaaGreatDoorLt8
namespace Go.Proofs.YtgjfdbbghefdbaaGreatDoor.Lt
open Go.RowKit Sx Dd Fa Fa.C1
set_option maxRecDepth 100000
theorem push_over {w : World} {n c : Nat} {p : Option Addr} {cs : List Value} (hn : 64 ≤ n) (hl : cs.length = 35) :
    Calls Tryz.prog 11 #[.slice p n c, .agg cs.toArray] w fun e w' => e = .returned (.tuple #[.slice none 0 0, .int .i64 11]) ∧ Below w.heap.size w w' := by
  have hN := Lib.hid hl
  clear hl
  go_enter Tryz.func11, Tryz.ntmps11
  go_wp2
  go_ret2
  exact ⟨rfl, (Below.refl _ w).alloc (Nat.le_refl _) _⟩
end Go.Proofs.YtgjfdbbghefdbaaGreatDoor.Lt
