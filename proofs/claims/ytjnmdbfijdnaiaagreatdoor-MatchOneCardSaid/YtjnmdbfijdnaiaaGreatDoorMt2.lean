/-
  match.leaf, leaf$1, whole. Conditions: the trees lie as 'TrV' says.
-/
import Derived.Test.YtjnmdbfijdnaiaaGreatDoorMt1
namespace Go.Proofs.YtjnmdbfijdnaiaaGreatDoor
open Go.RowKit

set_option maxHeartbeats 1000000 in
theorem mleaf_any (w : World) (k : Int) :
    Calls Tryz.prog 60 #[.int .i8 k] w fun e w' => e = .returned (.func (Fn.func 80) #[] #[.pointer (some ⟨w.heap.size, 0, none⟩)]) ∧ w' = w.alloc (.cells #[.int .i8 k] 22) := by
  go_enter Tryz.func60, Tryz.ntmps60
  go_wp2
  go_ret
  exact ⟨rfl, rfl⟩
theorem mwhole_any (w : World) (k : Int) :
    Calls Tryz.prog 61 #[.int .i8 k] w fun e w' => e = .returned (.func (Fn.func 81) #[] #[.pointer (some ⟨w.heap.size, 0, none⟩)]) ∧ w' = w.alloc (.cells #[.int .i8 k] 22) := by
  go_enter Tryz.func61, Tryz.ntmps61
  go_wp2
  go_ret
  exact ⟨rfl, rfl⟩

set_option maxHeartbeats 4000000 in
set_option maxRecDepth 100000 in
theorem mleaf1_any (w : World) (p x : Tr) (pp px : Option Addr) (np cp nx cx : Nat) (v : Value) (bk : Nat) (kk : Int) (hk : w.cell? ⟨bk, 0, none⟩ = some (.int .i8 kk)) :
    Calls Tryz.prog 80 #[.agg #[.int .i8 p.k, .int .i64 p.n, .string p.s, .string p.t, .slice pp np cp], .agg #[.int .i8 x.k, .int .i64 x.n, .string x.s, .string x.t, .slice px nx cx], v, .pointer (some ⟨bk, 0, none⟩)] w fun e w' => e = .returned (.tuple #[v, .bool (x.k == kk && (x.n == p.n && x.s.toList == p.s.toList))]) ∧ Below w.heap.size w w' := by
  obtain ⟨n1, n2, hb1, hz1⟩ := two_new w (.cells #[.int .i8 p.k, .int .i64 p.n, .string p.s, .string p.t, .slice pp np cp] 25) (.cells #[.int .i8 x.k, .int .i64 x.n, .string x.s, .string x.t, .slice px nx cx] 28)
  have hk1 := (hb1.cell (p := ⟨bk, 0, none⟩) (cell_block hk)).trans hk
  obtain ⟨a0, a1, a2, a3, a4⟩ := node_heap n1
  obtain ⟨b0, b1, b2, b3, b4⟩ := node_heap n2
  simp only [Nat.zero_add] at a1 a2 a3 a4 b1 b2 b3 b4
  clear n1 n2 hk
  cases e1 : (x.k == kk)
  · have d1 : decide (x.k = kk) = false := by simpa using e1
    go_enter Tryz.func80, Tryz.ntmps80
    go_wp2_with fail
    go_quiet (fail)
    go_wp2
    go_ret2
    exact ⟨rfl, by first | exact hb1.drew | exact below_drewN hb1 _⟩
  have d1 : decide (x.k = kk) = true := by simpa using e1
  cases e2 : (x.n == p.n)
  · have d2 : decide (x.n = p.n) = false := by simpa using e2
    go_enter Tryz.func80, Tryz.ntmps80
    go_wp2_with fail
    go_quiet (fail)
    go_wp2
    go_ret2
    exact ⟨rfl, by first | exact hb1.drew | exact below_drewN hb1 _⟩
  · have d2 : decide (x.n = p.n) = true := by simpa using e2
    generalize hq : (x.s.toList == p.s.toList) = q
    go_enter Tryz.func80, Tryz.ntmps80
    go_wp2_with fail
    go_quiet (fail)
    go_wp2
    go_ret2
    exact ⟨rfl, by first | exact hb1.drew | exact below_drewN hb1 _⟩
end Go.Proofs.YtjnmdbfijdnaiaaGreatDoor
