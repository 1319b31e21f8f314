/-
  Which trees and rows are too great; rows of trees. Conditions: the trees lie as 'TrV', 'Kids' say.
-/
import Derived.Test.YtjnmdbfijdnaiaaGreatDoorSz
namespace Go.Proofs.YtjnmdbfijdnaiaaGreatDoor
open Go.RowKit

theorem alloc_below (w : World) (o : Obj) : Below w.heap.size w (w.alloc o) := (Below.refl _ _).alloc (Nat.le_refl _) _

set_option maxHeartbeats 400000 in
theorem greatT_any {F : Nat → Prop} {x : Tr} {w : World} {sv : Value} (hx : TrV F w x sv) :
    Calls Tryz.prog 6 #[.agg #[.int .i8 x.k, .int .i64 x.n, .string x.s, .string x.t, sv]] w fun e w' => e = .returned (.bool (decide (1024 ≤ x.sz 1024))) ∧ Below w.heap.size w w' := by
  obtain ⟨p, c, rfl⟩ := hx.kids.slice
  have cK := fun W hb => size_any x W _ 1024 (hx.below (w' := W) hb) (by omega) (by omega)
  clear hx
  go_enter Tryz.func6, Tryz.ntmps6
  go_wp2_with (go_at_call 21; refine (cK _ (alloc_below _ _)).mono ?_; rintro e w2 ⟨rfl, hb2⟩)
  go_ret
  exact ⟨rfl, (alloc_below _ _).trans (hb2.mono (by simp))⟩
set_option maxHeartbeats 400000 in
theorem greatN_any {F : Nat → Prop} {x : Tr} {w : World} {sv : Value} (hx : TrV F w x sv) :
    Calls Tryz.prog 5 #[.agg #[.int .i8 x.k, .int .i64 x.n, .string x.s, .string x.t, sv]] w fun e w' => e = .returned (.bool (decide (8192 ≤ x.sz 8192))) ∧ Below w.heap.size w w' := by
  obtain ⟨p, c, rfl⟩ := hx.kids.slice
  have cK := fun W hb => nodes_any x W _ 8192 (hx.below (w' := W) hb) (by omega) (by omega)
  clear hx
  go_enter Tryz.func5, Tryz.ntmps5
  go_wp2_with (go_at_call 20; refine (cK _ (alloc_below _ _)).mono ?_; rintro e w2 ⟨rfl, hb2⟩)
  go_ret
  exact ⟨rfl, (alloc_below _ _).trans (hb2.mono (by simp))⟩

/-- The count of a row's nodes, at most about so many. -/
def gall : List Tr → Int → Int
  | [], n => n
  | x :: r, n => if n < 4000 then gall r (n + x.sz 4000) else n
theorem gall_stop (l : List Tr) {n : Int} (h : 4000 ≤ n) : gall l n = n := by
  cases l with
  | nil => rfl
  | cons x r => rw [gall, if_neg (by omega)]
theorem gall_take {l : List Tr} {k : Nat} {a : Int} (hk : k < l.length) (ha : a < 4000) : gall (l.drop k) a = gall (l.drop (k + 1)) (a + l[k].sz 4000) := by
  rw [List.drop_eq_getElem_cons hk, gall, if_pos ha]
set_option maxHeartbeats 1000000 in
set_option maxRecDepth 100000 in
theorem greatAll_any {F : Nat → Prop} {l : List Tr} {w : World} {v : Value} (hx : Kids F w v l) :
    Calls Tryz.prog 14 #[v] w fun e w' => e = .returned (.bool (decide (4000 ≤ gall l l.length))) ∧ Below w.heap.size w w' := by
  obtain ⟨p, c, rfl⟩ := hx.slice
  have hlen : l.length ≤ 2199023255552 := hx.len
  have HX := Lib.hid hx
  clear hx
  go_enter Tryz.func14, Tryz.ntmps14
  go_wp2
  go_loopw [3, 4] (fun n i wr => ∃ k : Nat, k ≤ l.length ∧ i = .int .i64 k ∧ ∃ a : Int, n = .int .i64 a ∧ 0 ≤ a ∧ a ≤ 2199023255552 + 4000 ∧ gall (l.drop k) a = gall l l.length ∧ Below w.heap.size w wr) (fun _ i _ => l.length - (intOf i).toNat)
  case atStart => exact ⟨0, Nat.zero_le _, rfl, _, rfl, by omega, by omega, by simp, Below.refl _ _⟩
  case round =>
    obtain ⟨k, hk, rfl, a, rfl, ha1, ha2, hrest, hbr⟩ := hrel
    have hxr := HX.out.under hbr
    by_cases hlt : k < l.length
    · by_cases ham : a < 4000
      · obtain ⟨g, o, kv, rfl, hg, hnode, hkid⟩ := hxr.at hlt
        have cK := fun W hb => size_any l[k] W kv 4000 (hkid.below (w' := W) hb) (by omega) (by omega)
        have hszk := sz_bound l[k] 4000 (by omega)
        have hnext := gall_take hlt ham
        obtain ⟨e0, e1, e2, e3, e4⟩ := hnode
        generalize l[k] = y at *
        have HN := Lib.hid (hnext.symm.trans hrest)
        clear hnext hrest hkid hxr
        go_wp2_with (go_at_call 21; refine (cK _ (Below.refl _ _)).mono ?_; rintro e w2 ⟨rfl, hb2⟩)
        go_roundw
        case rel => exact ⟨k + 1, hlt, by go_num, _, rfl, by omega, by omega, HN.out, hbr.trans (hb2.mono hbr.size)⟩
        case measure => simp [intOf]; omega
      · rw [gall_stop _ (by omega)] at hrest
        subst hrest
        clear hxr
        go_wp2
        go_ret
        exact ⟨rfl, hbr⟩
    · rw [List.drop_eq_nil_of_le (by omega), gall] at hrest
      subst hrest
      clear hxr
      by_cases ham : gall l l.length < 4000
      all_goals
        go_wp2
        go_ret
        exact ⟨rfl, hbr⟩
end Go.Proofs.YtjnmdbfijdnaiaaGreatDoor
