/-
  frame.Back over data. Conditions: as said. 
-/
import Derived.Test.YtgjfdbbghefdbaaGreatDoorLt9
namespace Go.Proofs.YtgjfdbbghefdbaaGreatDoor.Lt
open Go.RowKit Sx Dd Fa Fa.C1
set_option maxRecDepth 100000
theorem back_short {w : World} {n c : Nat} {p : Option Addr} {ts : Array Value} (hn : n < 2) :
    Calls Tryz.prog 10 #[.slice p n c, .agg ts] w fun e w' => e = .returned (.tuple #[.slice none 0 0, .bool false, .bool true]) ∧ Below w.heap.size w w' := by
  go_enter Tryz.func10, Tryz.ntmps10
  go_wp2
  go_ret3
  exact ⟨rfl, (Below.refl _ w).alloc (Nat.le_refl _) _⟩
/-- The front of a slice over data. -/
theorem dr_take {M : Mem} {T : Nat} {d : Dat} {p : Option Addr} {n c : Nat} (h : DR lay M (.sl T) d (.slice p n c)) {k : Nat} (hk : k ≤ n) : DR lay M (.sl T) (.r (d.rows.take k)) (.slice p k c) := by
  cases h with
  | nil _ _ _ _ h0 =>
    obtain rfl : k = 0 := by omega
    exact .nil T _ p c (by show List.take 0 d.rows = []; rfl)
  | sl _ _ b o _ val h1 h2 h3 h4 =>
    have hl : (Dat.r (d.rows.take k)).rows.length = k := by show (d.rows.take k).length = k; rw [List.length_take]; omega
    have hsub : ∀ (i : Nat) (row : List Dat), (Dat.r (d.rows.take k)).rows[i]? = some row → d.rows[i]? = some row := fun i row hi => by
      have hi : (d.rows.take k)[i]? = some row := hi
      have hik : i < k := by
        have := (List.getElem?_eq_some_iff.1 hi).1
        rw [List.length_take] at this
        omega
      rwa [List.getElem?_take_of_lt hik] at hi
    have := DR.sl (lay := lay) (M := M) T (.r (d.rows.take k)) b o c val (by omega) (fun i row hi => h2 i row (hsub i row hi)) (fun i row hi => h3 i row (hsub i row hi)) (fun i row hi => h4 i row (hsub i row hi))
    rwa [hl] at this
end Go.Proofs.YtgjfdbbghefdbaaGreatDoor.Lt
