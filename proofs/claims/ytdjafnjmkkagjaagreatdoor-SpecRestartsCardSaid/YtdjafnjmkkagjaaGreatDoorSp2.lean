/-
  pleachref25.many, manySup, Great come to an end. No condition.
-/
import Derived.Test.YtdjafnjmkkagjaaGreatDoorSp1
import Derived.Test.YtdjafnjmkkagjaaGreatDoorSx4
import Derived.StillTailTactics
import Derived.Deep.RegionWith
namespace Go.Proofs.YtdjafnjmkkagjaaGreatDoor.Rdb
open Go.RowKit

def ManyAt (n : Nat) : Prop := ∀ (w : World) (cs : List Value) (d : Int), Rd Tryz.prog w n 28 cs →
  Calls Tryz.prog 39 #[.agg cs.toArray, .int .i64 d] w fun e w' => (∃ k, e = .returned (.int .i64 k)) ∧ Below w.heap.size w w'
def ManySupAt (n : Nat) : Prop := ∀ (w : World) (cs : List Value) (d : Int), Rd Tryz.prog w n 36 cs →
  Calls Tryz.prog 44 #[.agg cs.toArray, .int .i64 d] w fun e w' => (∃ k, e = .returned (.int .i64 k)) ∧ Below w.heap.size w w'

set_option maxHeartbeats 1000000 in
set_option maxRecDepth 100000 in
theorem many_step {n : Nat} (ih : ∀ m, m < n → ManySupAt m) : ManyAt n := by
  intro w cs d h
  obtain ⟨m, x, sv, kd, rs, sh, mn, fn, av, la, uv, hm, rfl, hx, hk, hu⟩ := rd_child h
  obtain ⟨m2, p, len, cap, hm2, rfl, hlen, hel⟩ := rd_sups hu
  have hbA := alloc_below w (.cells #[.int .i8 x.k, .int .i64 x.n, .string x.s, .string x.t, sv, .int .i8 kd, .int .i8 rs, .int .i64 sh, .string mn, .string fn, av, .slice p len cap] 28)
  have hxA := hx.below hbA
  have hkA := hk.under hbA
  obtain ⟨pa, ca, rfl⟩ := hk.slice
  have cG := fun W (hb : Below _ _ W) => greatT_any (hxA.below (w' := W) hb)
  have cA := fun W (hb : Below _ _ W) => greatAll_any (hkA.under (w' := W) hb)
  have hs : w.heap.size < (w.alloc (.cells #[.int .i8 x.k, .int .i64 x.n, .string x.s, .string x.t, sv, .int .i8 kd, .int .i8 rs, .int .i64 sh, .string mn, .string fn, .slice pa la.length ca, .slice p len cap] 28)).heap.size := by
    show _ < (w.heap.push _).size
    simp
  have q : ∀ o, (w.alloc (.cells #[.int .i8 x.k, .int .i64 x.n, .string x.s, .string x.t, sv, .int .i8 kd, .int .i8 rs, .int .i64 sh, .string mn, .string fn, .slice pa la.length ca, .slice p len cap] 28)).cell? ⟨w.heap.size, o, none⟩ = (#[.int .i8 x.k, .int .i64 x.n, .string x.s, .string x.t, sv, .int .i8 kd, .int .i8 rs, .int .i64 sh, .string mn, .string fn, .slice pa la.length ca, .slice p len cap] : Array Value)[o]? := fun o => Sx.cell_at (Sx.alloc_new _ _) o
  go_enter Tryz.func39, Tryz.ntmps39
  go_upto_region 1 with fail
  generalize w.alloc (.cells #[.int .i8 x.k, .int .i64 x.n, .string x.s, .string x.t, sv, .int .i8 kd, .int .i8 rs, .int .i64 sh, .string mn, .string fn, .slice pa la.length ca, .slice p len cap] 28) = w1 at *
  have q0 : w1.cell? ⟨w.heap.size, 0, none⟩ = some (.int .i8 x.k) := q 0
  have q1 : w1.cell? ⟨w.heap.size, 1, none⟩ = some (.int .i64 x.n) := q 1
  have q2 : w1.cell? ⟨w.heap.size, 2, none⟩ = some (.string x.s) := q 2
  have q3 : w1.cell? ⟨w.heap.size, 3, none⟩ = some (.string x.t) := q 3
  have q4 : w1.cell? ⟨w.heap.size, 4, none⟩ = some sv := q 4
  have q10 : w1.cell? ⟨w.heap.size, 10, none⟩ = some (.slice pa la.length ca) := q 10
  have q11 : w1.cell? ⟨w.heap.size, 11, none⟩ = some (.slice p len cap) := q 11
  have e10 : ∀ W, Below w1.heap.size w1 W → W.cell? ⟨w.heap.size, 10, none⟩ = some (.slice pa la.length ca) := fun W hb => (hb.cell (p := ⟨w.heap.size, 10, none⟩) hs).trans q10
  go_upto_region 3 with (first
    | (go_at_call 11; refine (cG _ (Below.refl _ _)).mono ?_; rintro e w2 ⟨rfl, hb2⟩; have f10 := e10 _ hb2)
    | (go_at_call 84; refine (cA _ hb2).mono ?_; rintro e w3 ⟨rfl, hb3⟩; have f10 := e10 _ (hb2.trans (hb3.mono hb2.size))))
  all_goals first
    | (go_ret; first | exact ⟨⟨_, rfl⟩, hbA⟩ | exact ⟨⟨_, rfl⟩, hbA.trans (hb2.mono hbA.size)⟩ | exact ⟨⟨_, rfl⟩, hbA.trans ((hb2.trans (hb3.mono hb2.size)).mono hbA.size)⟩)
    | skip
  have hB3 : Below w1.heap.size w1 w3 := hb2.trans (hb3.mono hb2.size)
  have hs3 : w.heap.size < w3.heap.size := Nat.lt_of_lt_of_le hs hB3.size
  have q113 : w3.cell? ⟨w.heap.size, 11, none⟩ = some (.slice p len cap) := (hB3.cell (p := ⟨w.heap.size, 11, none⟩) hs).trans q11
  have hw3 : Below w.heap.size w w3 := hbA.trans (hB3.mono hbA.size)
  clear hx hk hu cG cA hxA hkA q q0 q1 q2 q3 q4 q10 q11 e10 f10
  go_wp2
  go_loopw [5, 6] (fun n i wr => ∃ k : Nat, k ≤ len ∧ i = .int .i64 k ∧ (∃ a, n = .int .i64 a) ∧ Below w3.heap.size w3 wr) (fun _ i _ => len - (intOf i).toNat)
  case atStart => exact ⟨0, Nat.zero_le _, rfl, ⟨_, rfl⟩, Below.refl _ _⟩
  case round =>
    obtain ⟨k, hk, rfl, ⟨a, rfl⟩, hbr⟩ := hrel
    have r11 := (hbr.cell (p := ⟨w.heap.size, 11, none⟩) hs3).trans q113
    have hwr : Below w.heap.size w wr := hw3.trans (hbr.mono hw3.size)
    by_cases hlt : k < len
    · by_cases ham : a ≤ 400
      · obtain ⟨g, o, es, rfl, _, hat, hR⟩ := hel k hlt
        obtain ⟨m3, st, mr, mt, cv, hm3, rfl, _⟩ := rd_sup hR
        have cM := fun W D (hb : Below wr.heap.size wr W) => ih m2 (by omega) W _ D ((hR.keep hwr).keep hb)
        have keepc : ∀ j u, ([.int .i8 st, .int .i64 mr, .int .i64 mt, cv] : List Value)[j]? = some u → wr.cell? ⟨g, o + k * 4 + j, none⟩ = some u := fun j u hu => (hwr.cell (p := ⟨g, _, none⟩) (cell_lt (hat j u hu))).trans (hat j u hu)
        have z0 : wr.cell? ⟨g, o + k * 4, none⟩ = some (.int .i8 st) := keepc 0 _ rfl
        have z1 : wr.cell? ⟨g, o + k * 4 + 1, none⟩ = some (.int .i64 mr) := keepc 1 _ rfl
        have z2 : wr.cell? ⟨g, o + k * 4 + 2, none⟩ = some (.int .i64 mt) := keepc 2 _ rfl
        have z3 : wr.cell? ⟨g, o + k * 4 + 3, none⟩ = some cv := keepc 3 _ rfl
        clear hat keepc hel q113
        go_wp2_with (go_at_call 44; refine (cM _ _ (Below.refl _ _)).mono ?_; rintro e w4 ⟨⟨kk, rfl⟩, hb4⟩)
        go_roundw
        case rel => exact ⟨k + 1, hlt, by go_num, ⟨_, rfl⟩, hbr.trans (hb4.mono hbr.size)⟩
        case measure => simp [intOf]; omega
      · go_wp2
        go_ret
        exact ⟨⟨_, rfl⟩, hwr⟩
    · by_cases ham : a ≤ 400
      all_goals
        go_wp2
        go_ret
        exact ⟨⟨_, rfl⟩, hwr⟩
end Go.Proofs.YtdjafnjmkkagjaaGreatDoor.Rdb
