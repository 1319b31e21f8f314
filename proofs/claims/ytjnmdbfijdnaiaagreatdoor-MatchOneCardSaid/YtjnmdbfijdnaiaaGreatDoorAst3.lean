/-
  The reference's limits and leaves of trees: pleachref07.Size, Fits, Name, Word, Atom, leaf. Conditions: the tree lies as 'TrV' says.
-/
import Derived.Test.YtjnmdbfijdnaiaaGreatDoorAst2
namespace Go.Proofs.YtjnmdbfijdnaiaaGreatDoor
open Go.RowKit

set_option maxHeartbeats 2000000 in
set_option maxRecDepth 100000 in
theorem nsize_any {F : Nat → Prop} {x : Tr} {w : World} {sv : Value} (hx : TrV F w x sv) :
    Calls Tryz.prog 65 #[.agg #[.int .i8 x.k, .int .i64 x.n, .string x.s, .string x.t, sv]] w fun e w' => e = .returned (.tuple #[.int .i64 (x.sz 4097), .int .i64 (x.dp 65)]) ∧ Below w.heap.size w w' := by
  obtain ⟨p, c, rfl⟩ := hx.kids.slice
  obtain ⟨hb1, hz1, hn1⟩ := node_box w 25 x.k x.n x.s x.t (.slice p x.l.length c)
  obtain ⟨a0, a1, a2, a3, a4⟩ := hn1
  simp only [Nat.zero_add] at a1 a2 a3 a4
  have hx1 := hx.below hb1
  have hsz := sz_bound x 4097 (by omega)
  have hdp := dp_bound x 65 (by omega)
  clear hx
  go_enter Tryz.func65, Tryz.ntmps65
  go_wp2_with fail
  generalize w.alloc (.cells #[.int .i8 x.k, .int .i64 x.n, .string x.s, .string x.t, .slice p x.l.length c] 25) = w1 at hb1 hz1 a0 a1 a2 a3 a4 hx1 ⊢
  have hmv : ∀ W : World, Below w1.heap.size w1 W → W.cell? ⟨w.heap.size, 0, none⟩ = some (.int .i8 x.k) ∧ W.cell? ⟨w.heap.size, 1, none⟩ = some (.int .i64 x.n) ∧ W.cell? ⟨w.heap.size, 2, none⟩ = some (.string x.s) ∧ W.cell? ⟨w.heap.size, 3, none⟩ = some (.string x.t) ∧ W.cell? ⟨w.heap.size, 4, none⟩ = some (.slice p x.l.length c) := fun W hb =>
    ⟨(hb.cell (p := ⟨w.heap.size, 0, none⟩) (cell_block a0)).trans a0, (hb.cell (p := ⟨w.heap.size, 1, none⟩) (cell_block a1)).trans a1, (hb.cell (p := ⟨w.heap.size, 2, none⟩) (cell_block a1)).trans a2, (hb.cell (p := ⟨w.heap.size, 3, none⟩) (cell_block a1)).trans a3, (hb.cell (p := ⟨w.heap.size, 4, none⟩) (cell_block a1)).trans a4⟩
  have hS0 := hmv w1 (Below.refl _ _)
  have hd : Below w1.heap.size w1 w1.drew := below_drewN (Below.refl _ _) 1
  have cN := fun W hb => nodes_any x W _ 4097 (hx1.below (w' := W) hb) (by omega) (by omega)
  have cD := fun W hb => deep_any x W _ 65 (hx1.below (w' := W) hb) (by omega) (by omega)
  clear hx1
  obtain ⟨z, hz⟩ : ∃ z, x.sz 4097 = z := ⟨_, rfl⟩
  obtain ⟨dd, hdd⟩ : ∃ dd, x.dp 65 = dd := ⟨_, rfl⟩
  rw [hz] at cN hsz
  rw [hdd] at cD hdp
  have HZ := Lib.hid hz
  have HD := Lib.hid hdd
  clear hz hdd
  go_region_held3 (fun W => W.cell? ⟨w.heap.size, 0, none⟩ = some (.int .i8 x.k) ∧ W.cell? ⟨w.heap.size, 1, none⟩ = some (.int .i64 x.n) ∧ W.cell? ⟨w.heap.size, 2, none⟩ = some (.string x.s) ∧ W.cell? ⟨w.heap.size, 3, none⟩ = some (.string x.t) ∧ W.cell? ⟨w.heap.size, 4, none⟩ = some (.slice p x.l.length c)) (first | exact hS0 | exact hS1 | exact hS2) (first
    | (go_at_call 20; refine (cN _ hd).mono ?_; rintro e w5 ⟨rfl, hb5⟩; have hB5 := hd.trans (hb5.mono hd.size); have hS1 := hmv _ hB5)
    | (go_at_call 83; refine (cD _ hB5).mono ?_; rintro e w6 ⟨rfl, hb6⟩; have hB6 := hB5.trans (hb6.mono hB5.size); have hS2 := hmv _ hB6))
  all_goals
    go_wp2
    go_ret2
    exact ⟨by rw [HZ.out, HD.out]; rfl, hb1.trans (hB6.mono hb1.size)⟩

set_option maxHeartbeats 1000000 in
set_option maxRecDepth 100000 in
theorem nfits_any {F : Nat → Prop} {x : Tr} {w : World} {sv : Value} (hx : TrV F w x sv) :
    Calls Tryz.prog 45 #[.agg #[.int .i8 x.k, .int .i64 x.n, .string x.s, .string x.t, sv]] w fun e w' => e = .returned (.bool (fitsB x)) ∧ Below w.heap.size w w' := by
  obtain ⟨p, c, rfl⟩ := hx.kids.slice
  have cS := fun W hb => nsize_any (hx.below (w' := W) hb)
  have hU : fitsB x = (decide (x.sz 4097 ≤ 4096) && decide (x.dp 65 ≤ 64)) := rfl
  have HU := Lib.hid hU
  clear hx hU
  by_cases h : x.sz 4097 ≤ 4096
  all_goals
    go_enter Tryz.func45, Tryz.ntmps45
    go_wp2_with (go_at_call 65; refine (cS _ (alloc_below _ _)).mono ?_; rintro e w2 ⟨rfl, hb2⟩)
    go_ret
    exact ⟨ret_bool (by rw [HU.out, Bool.eq_iff_iff]; simp; try omega), (alloc_below _ _).trans (hb2.mono (by simp))⟩
end Go.Proofs.YtjnmdbfijdnaiaaGreatDoor
