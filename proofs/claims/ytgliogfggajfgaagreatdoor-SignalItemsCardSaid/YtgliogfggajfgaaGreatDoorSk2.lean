/-
  maps.DeleteFunc of an empty map: nothing is done. Condition: the map's block is empty.
-/
import Derived.Test.YtgliogfggajfgaaGreatDoorSk1
import Derived.Deep.RegionHeld3
import Derived.Maps.RangeWalk
import Derived.Shelf.SlMaps.DeleteFunc
namespace Go.Proofs.YtgliogfggajfgaaGreatDoor
open Go.RowKit Go.Maps
theorem came0 {kl : Lit} {d : DataW Value} (h : ∀ zd, (DataW.map ([] : List (Lit × DataW Value))).atKey kl zd = d) : False := by
  have h1 := h .nil
  have h2 := h (.agg [])
  simp only [DataW.atKey, List.find?_nil] at h1 h2
  rw [← h1] at h2; cases h2
theorem below_none {W W' : World} (h : W.grownBy W' none) : Below W.heap.size W W' := ⟨h.os, h.tape, h.output, h.size, fun k hk => h.block k hk (by simp)⟩
set_option maxRecDepth 100000 in
set_option maxHeartbeats 4000000 in
theorem df_S {w : World} {bs c : Nat} (hb : w.heap[bs]? = some (.map #[] c)) (x : Fn) (fa ca : Array Value) :
    Calls Tryz.prog 76 #[.map (some bs), .func x fa ca] w fun e w' => e = .returned (.tuple #[]) ∧ Below w.heap.size w w' := by
  have K : Keyed Tryz.prog 3 := int_keyed Tryz.underlying3
  have hown : w.ownsMap Tryz.prog 3 anyR bs 1 (.map []) := ⟨#[], c, hb, ⟨by simp, ⟨fun x hx => by simp at hx, by simp, by simp⟩, fun x hx => by simp at hx⟩, by simp, rfl⟩
  clear hb
  go_enter Tryz.func76, Tryz.ntmps76
  go_wp2_with (first
    | (at_range; refine wpList_range_own _ rfl _ 77 rfl 3 124 K Tryz.underlying77 anyR bs 1 _ rfl hown ?_; intro w0 hrg0 hg0 hs0))
  go_frame
  go_loopw [8] (fun _ wr => ∃ (left : Lit → Bool) (cnt : Nat), wr.ranges Tryz.prog 3 anyR bs w.heap.size 1 (.map []) left cnt ∧ w.grownBy wr none)
    (fun _ wr => wr.rangeLeft bs w.heap.size)
  case atStart => exact ⟨_, _, hrg0, hg0⟩
  case round =>
    obtain ⟨left, cnt, hrg, hgw⟩ := hrel
    go_wp2_with (first
      | (at_next; refine wpList_next_ranges _ rfl _ rfl 3 K anyR (Value.int .i64) id (fun key kl hkey => by obtain ⟨x, rfl, _⟩ := Maps.keyOf_int_inv Tryz.underlying3 hkey; exact ⟨x, rfl⟩) (fun v _ _ => ⟨v, rfl⟩) bs w.heap.size 1 _ _ _ rfl hrg ?_ ?_))
    · intro _ hl0
      go_wp2
      go_end0
      exact ⟨rfl, below_none hgw⟩
    · intro x c kl yd yp w1 cnt1 hkey hlx hv hat hrg1 hlt hg1 hs1 hen
      exact absurd (came0 hat) (by simp)
end Go.Proofs.YtgliogfggajfgaaGreatDoor
