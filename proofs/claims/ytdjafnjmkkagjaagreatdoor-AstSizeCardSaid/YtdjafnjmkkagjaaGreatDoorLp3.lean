/-
  AstSize: for every node in memory it returns true. Condition: the table of letters.
-/
import Derived.Test.YtdjafnjmkkagjaaGreatDoorOc3
namespace Go.Proofs.YtdjafnjmkkagjaaGreatDoor
open Go.RowKit Sx
theorem astSize_any {F : Nat → Prop} {x : Tr} {w : World} {sv : Value} (hL : Letters w) (hx : TrV F w x sv) :
    Calls Tryz.prog 6 #[.agg #[.int .i8 x.k, .int .i64 x.n, .string x.s, .string x.t, sv]] w fun e w' => e = .returned (.bool true) ∧ Below w.heap.size w w' := by
  refine (Oa.Pu.calls (Oa.C3.size_law x (Oa.trOk_of hx)) hL (vs := #[_]) ⟨_, _, rfl, Oa.vr_agV hx, rfl⟩).mono ?_
  rintro e w' ⟨v, M', rfl, _, _, _, hv, hb⟩
  obtain rfl : v = .bool true := hv
  exact ⟨rfl, hb⟩
end Go.Proofs.YtdjafnjmkkagjaaGreatDoor
