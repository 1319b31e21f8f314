/-
  pleachref25.manySup, Great come to an end. No condition.
-/
import Derived.Test.YtdjafnjmkkagjaaGreatDoorSp2
namespace Go.Proofs.YtdjafnjmkkagjaaGreatDoor.Rdb
open Go.RowKit

set_option maxHeartbeats 1000000 in
set_option maxRecDepth 100000 in
theorem manySup_step {n : Nat} (ih : ∀ m, m < n → ManyAt m) : ManySupAt n := by
  intro w cs d h
  obtain ⟨m, st, mr, mt, cv, hm, rfl, hu⟩ := rd_sup h
  obtain ⟨m2, p, len, cap, hm2, rfl, hlen, hel⟩ := rd_children hu
  have hbA := alloc_below w (.cells #[.int .i8 st, .int .i64 mr, .int .i64 mt, .slice p len cap] 36)
  have hs : w.heap.size < (w.alloc (.cells #[.int .i8 st, .int .i64 mr, .int .i64 mt, .slice p len cap] 36)).heap.size := by
    show _ < (w.heap.push _).size
    simp
  have q : ∀ o, (w.alloc (.cells #[.int .i8 st, .int .i64 mr, .int .i64 mt, .slice p len cap] 36)).cell? ⟨w.heap.size, o, none⟩ = (#[.int .i8 st, .int .i64 mr, .int .i64 mt, .slice p len cap] : Array Value)[o]? := fun o => Sx.cell_at (Sx.alloc_new _ _) o
  go_enter Tryz.func44, Tryz.ntmps44
  go_wp2
  generalize w.alloc (.cells #[.int .i8 st, .int .i64 mr, .int .i64 mt, .slice p len cap] 36) = w1 at *
  have q3 : w1.cell? ⟨w.heap.size, 3, none⟩ = some (.slice p len cap) := q 3
  clear q
  go_loopw [5, 6] (fun n i wr => ∃ k : Nat, k ≤ len ∧ i = .int .i64 k ∧ (∃ a, n = .int .i64 a) ∧ Below w1.heap.size w1 wr) (fun _ i _ => len - (intOf i).toNat)
  case atStart => exact ⟨0, Nat.zero_le _, rfl, ⟨_, rfl⟩, Below.refl _ _⟩
  case round =>
    obtain ⟨k, hk, rfl, ⟨a, rfl⟩, hbr⟩ := hrel
    have r11 := (hbr.cell (p := ⟨w.heap.size, 3, none⟩) hs).trans q3
    have hwr : Below w.heap.size w wr := hbA.trans (hbr.mono hbA.size)
    by_cases hlt : k < len
    · by_cases ham : a ≤ 400
      · obtain ⟨g, o, es, rfl, _, hat, hR⟩ := hel k hlt
        obtain ⟨m3, x, sv, kd, rs, sh, mn, fn, av, la, uv, hm3, rfl, _⟩ := rd_child hR
        have cM := fun W D (hb : Below wr.heap.size wr W) => ih m2 (by omega) W _ D ((hR.keep hwr).keep hb)
        have keepc : ∀ j u, ([.int .i8 x.k, .int .i64 x.n, .string x.s, .string x.t, sv, .int .i8 kd, .int .i8 rs, .int .i64 sh, .string mn, .string fn, av, uv] : List Value)[j]? = some u → wr.cell? ⟨g, o + k * 12 + j, none⟩ = some u := fun j u hu => (hwr.cell (p := ⟨g, _, none⟩) (cell_lt (hat j u hu))).trans (hat j u hu)
        have z0 : wr.cell? ⟨g, o + k * 12, none⟩ = some (.int .i8 x.k) := keepc 0 _ rfl
        have z1 : wr.cell? ⟨g, o + k * 12 + 1, none⟩ = some (.int .i64 x.n) := keepc 1 _ rfl
        have z2 : wr.cell? ⟨g, o + k * 12 + 2, none⟩ = some (.string x.s) := keepc 2 _ rfl
        have z3 : wr.cell? ⟨g, o + k * 12 + 3, none⟩ = some (.string x.t) := keepc 3 _ rfl
        have z4 : wr.cell? ⟨g, o + k * 12 + 4, none⟩ = some sv := keepc 4 _ rfl
        have z5 : wr.cell? ⟨g, o + k * 12 + 5, none⟩ = some (.int .i8 kd) := keepc 5 _ rfl
        have z6 : wr.cell? ⟨g, o + k * 12 + 6, none⟩ = some (.int .i8 rs) := keepc 6 _ rfl
        have z7 : wr.cell? ⟨g, o + k * 12 + 7, none⟩ = some (.int .i64 sh) := keepc 7 _ rfl
        have z8 : wr.cell? ⟨g, o + k * 12 + 8, none⟩ = some (.string mn) := keepc 8 _ rfl
        have z9 : wr.cell? ⟨g, o + k * 12 + 9, none⟩ = some (.string fn) := keepc 9 _ rfl
        have z10 : wr.cell? ⟨g, o + k * 12 + 10, none⟩ = some av := keepc 10 _ rfl
        have z11 : wr.cell? ⟨g, o + k * 12 + 11, none⟩ = some uv := keepc 11 _ rfl
        clear hat keepc hel q3
        go_wp2_with (go_at_call 39; refine (cM _ _ (Below.refl _ _)).mono ?_; rintro e w4 ⟨⟨kk, rfl⟩, hb4⟩)
        go_roundw
        case rel => exact ⟨k + 1, hlt, by go_num, ⟨_, rfl⟩, hbr.trans (hb4.mono hbr.size)⟩
        case measure => simp [intOf]; omega
      · go_wp2
        go_ret
        exact ⟨⟨_, rfl⟩, hwr⟩
    · by_cases ham : a ≤ 400
      all_goals
        go_wp2
        go_ret
        exact ⟨⟨_, rfl⟩, hwr⟩

theorem many_all (n : Nat) : ManyAt n ∧ ManySupAt n := by
  induction n using Nat.strongRecOn with
  | ind n ih => exact ⟨many_step fun m hm => (ih m hm).2, manySup_step fun m hm => (ih m hm).1⟩

set_option maxRecDepth 100000 in
theorem great25_any {w : World} {n : Nat} {cs : List Value} (h : Rd Tryz.prog w n 28 cs) : Calls Tryz.prog 10 #[.agg cs.toArray] w fun e w' => (∃ b, e = .returned (.bool b)) ∧ Below w.heap.size w w' := by
  have cM := fun W (hb : Below w.heap.size w W) => (many_all n).1 W cs 0 (h.keep hb)
  obtain ⟨m, x, sv, kd, rs, sh, mn, fn, av, la, uv, hm, rfl, _⟩ := rd_child h
  go_enter Tryz.func10, Tryz.ntmps10
  go_wp2_with (go_at_call 39; refine (cM _ (alloc_below _ _)).mono ?_; rintro e w4 ⟨⟨kk, rfl⟩, hb4⟩)
  go_ret
  exact ⟨⟨_, rfl⟩, (alloc_below _ _).trans (hb4.mono (alloc_below _ _).size)⟩
end Go.Proofs.YtdjafnjmkkagjaaGreatDoor.Rdb
