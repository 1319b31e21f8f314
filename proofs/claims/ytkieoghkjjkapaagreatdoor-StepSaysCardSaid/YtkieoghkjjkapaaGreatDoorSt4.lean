/-
  StepSays: for every frame and instruction in memory it returns true. Condition: the table of letters.
-/
import Derived.Test.YtkieoghkjjkapaaGreatDoorSt3
import Derived.Test.YtkieoghkjjkapaaGreatDoorWk18
namespace Go.Proofs.YtkieoghkjjkapaaGreatDoor
open Go.RowKit Sx
theorem stepSays_any {w : World} {n0 n1 : Nat} {c0 c1 : List Value} (hL : Letters w) (h0 : Rdb.Rd Tryz.prog w n0 36 c0) (h1 : Rdb.Rd Tryz.prog w n1 41 c1) :
    Calls Tryz.prog 3 #[.agg c0.toArray, .agg c1.toArray] w fun e w' => e = .returned (.bool true) ∧ Below w.heap.size w w' := by
  obtain ⟨kd, ls, st, bs, nt, t, u, v, q0, a1, a2, a3, a4, ht, hu, hv⟩ := Rdb.rd_frame h0
  obtain ⟨op, a, b, q1, ha, _⟩ := Rdb.rd_code h1
  have i1 : IntKind.i64.min = -9223372036854775808 := by decide
  have i2 : IntKind.i64.max = 9223372036854775807 := by decide
  have ha' : -9223372036854775808 ≤ a ∧ a ≤ 9223372036854775807 := by simpa [Lit.wf, i1, i2] using ha
  have hw : Oa.Pu 5 [] (.b true) := wakes18 rfl Oa.rho_ok (.head _)
  refine (Oa.Pu.calls (Oa.S1.says_pu hw kd ls st bs nt t u v op a b a1 a2 a3 a4 ht hu hv ha') hL (vs := #[_, _]) ⟨_, _, rfl, q0, _, _, rfl, q1, rfl⟩).mono ?_
  rintro e w' ⟨x, M', rfl, _, _, _, hv, hb⟩
  obtain rfl : x = .bool true := hv
  exact ⟨rfl, hb⟩
end Go.Proofs.YtkieoghkjjkapaaGreatDoor
