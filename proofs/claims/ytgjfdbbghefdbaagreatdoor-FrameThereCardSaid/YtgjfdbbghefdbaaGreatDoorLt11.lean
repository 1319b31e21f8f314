/-
  frame.Back over data: a machine's frame comes to light. Conditions: as said. (NOT BUILT YET)
-/
import Derived.Test.YtgjfdbbghefdbaaGreatDoorLt10
namespace Go.Proofs.YtgjfdbbghefdbaaGreatDoor.Lt
open Go.RowKit Sx Dd Fa Fa.C1
set_option maxRecDepth 100000
/-- The kind of a frame in a row of the call's own. -/
theorem StRow.kind {w : World} {M : Mem} {B n k : Nat} {rows : List (List Dat)} {f : Nat → Value} {g : Nat → Nat} (h : StRow w M B n k rows f g) {i : Nat} (hi : i < k) (hin : i < n) {row : List Dat} (hr : rows[i]? = some row) : w.cell? ⟨B, i * 35, none⟩ = some (.int .i8 (row.getD 0 .o).int) := by
  obtain ⟨_, _, r, e, hF⟩ := h.2.2.2 i hi
  rw [hr] at e
  cases e
  rw [h.1.cell (by omega)]
  exact congrArg some (dr_i (hF.same 0 (.i .i8) (by omega) rfl))
set_option maxHeartbeats 2000000 in
theorem back_front {M : Mem} {w : World} {d : Dat} {p : Option Addr} {n c : Nat} {ts : Array Value} (hM : MemOk M w) (h : DR lay M (.sl 43) d (.slice p n c)) (hn : d.rows.length = n) (h2 : 2 ≤ n) (hb : n ≤ 120) (hs : ∀ row, row ∈ d.rows → Short row) {row : List Dat} (hrow0 : d.rows[n - 2]? = some row) (hkn : (row.getD 0 .o).int ≠ 0) :
    Calls Tryz.prog 10 #[.slice p n c, .agg ts] w fun e w' => ∃ B f g, e = .returned (.tuple #[.slice (some ⟨B, 0, none⟩) (n - 1) (n - 1), .bool true, .bool false]) ∧ w.heap.size ≤ B ∧ StRow w' M B (n - 1) (n - 1) (d.rows.take (n - 1)) f g ∧ Below w.heap.size w w' := by
  have hl : (Dat.r (d.rows.take (n - 1))).rows.length = n - 1 := by show (d.rows.take (n - 1)).length = _; rw [List.length_take]; omega
  have hd := dr_take h (show n - 1 ≤ n by omega)
  have hsh : ∀ row, row ∈ (Dat.r (d.rows.take (n - 1))).rows → Short row := fun row hr => hs row (List.mem_of_mem_take hr)
  have hcap : n - 1 ≤ c := by
    cases h with
    | nil => omega
    | sl _ _ b o _ val h1 => omega
  obtain ⟨m, rfl⟩ : ∃ m, n = m + 1 := ⟨n - 1, by omega⟩
  rw [Nat.add_sub_cancel] at hd hsh hl hcap ⊢
  have hcall : ∀ W, Below w.heap.size w W → _ := fun W hW => stack_in (w := W) (memOk_below hM hW) (d := .r (d.rows.take m)) (p := p) (c := c) (by rw [hl]; exact hd) (by rw [hl]; omega) hsh
  rw [hl] at hcall
  clear hl hd hsh
  have hrow : (Dat.r (d.rows.take m)).rows[m - 1]? = some row := by
    show (d.rows.take m)[m - 1]? = _
    rw [List.getElem?_take_of_lt (by omega)]
    exact hrow0
  have hkn' : (row[0]?.getD Dat.o).int ≠ 0 := by simpa [List.getD_eq_getElem?_getD] using hkn
  go_enter Tryz.func10, Tryz.ntmps10
  go_wp2_with (go_at_call 18; refine (hcall _ ((Below.refl _ w).alloc (Nat.le_refl _) _)).mono ?_; rintro e W2 ⟨B, f, g, rfl, hlB, hSt, hb2⟩; have hkd := hSt.kind (i := m - 1) (by omega) (by omega) hrow; dsimp only)
  go_ret3
  exact ⟨B, f, g, rfl, by have := hlB; simp at this; omega, hSt, ((Below.refl _ w).alloc (Nat.le_refl _) _).trans (hb2.mono (by simp))⟩
end Go.Proofs.YtgjfdbbghefdbaaGreatDoor.Lt
