/-
  ast.measure, size.fits, fields.only; pleachref07.Size, Fits, bare. Conditions: the tree lies as 'TrV' says.
-/
import Derived.Test.YtjnmdbfijdnaiaaGreatDoorAst1
namespace Go.Proofs.YtjnmdbfijdnaiaaGreatDoor
open Go.RowKit

set_option maxHeartbeats 2000000 in
set_option maxRecDepth 100000 in
theorem measure_any {F : Nat → Prop} {x : Tr} {w : World} {g o : Nat} {sv : Value} (hnode : NodeAt w g o x sv) (hx : TrV F w x sv) :
    Calls Tryz.prog 55 #[.pointer (some ⟨g, o, none⟩)] w fun e w' => e = .returned (.agg #[.int .i64 (x.sz 4097), .int .i64 (x.dp 65)]) ∧ Below w.heap.size w w' := by
  obtain ⟨p, c, rfl⟩ := hx.kids.slice
  have hx0 : TrV (fun k => k < w.heap.size) w x (.slice p x.l.length c) := ⟨hx.wf, hx.kids.mono fun _ _ h => h⟩
  have hg := hnode.lt
  clear hx
  go_enter Tryz.func55, Tryz.ntmps55
  go_wp2_with fail
  obtain ⟨n1, n2, n3, hb, hs⟩ := three_new w (.cells #[.int .i64 0, .int .i64 0] 78) (.cells #[.int .i64 0, .int .i64 0] 78) (.cells #[.func (Fn.func 74) #[] #[.pointer (some ⟨w.heap.size + 1, 0, none⟩), .pointer (some ⟨w.heap.size + 1 + 1, 0, none⟩)]] 103)
  generalize ((w.alloc (.cells #[.int .i64 0, .int .i64 0] 78)).alloc (.cells #[.int .i64 0, .int .i64 0] 78)).alloc (.cells #[.func (Fn.func 74) #[] #[.pointer (some ⟨w.heap.size + 1, 0, none⟩), .pointer (some ⟨w.heap.size + 1 + 1, 0, none⟩)]] 103) = w3 at n1 n2 n3 hb hs ⊢
  have hnode3 := hnode.keep (hb.block g hg)
  refine (nodeC_any (F := fun k => k < w.heap.size) (bn := w.heap.size + 1) (bw := w.heap.size + 1 + 1) (fun k hk => by omega) (by omega) x w3 g o _ 0 hnode3 (by omega) (hx0.below hb) n2 (one_cell n3) (by omega) (by omega)).mono ?_
  rintro e w5 ⟨rfl, hb5, ht5⟩
  rw [show (0 : Int) + x.sz (4097 - 0) = x.sz 4097 from by simp] at hb5
  have n15 : w5.heap[w.heap.size]? = _ := (ht5.block w.heap.size (by omega) (by omega)).trans n1
  have hx5 := (hx0.below hb).turn ht5 fun k hk => by omega
  have hnode5 := hnode3.turn ht5 (by omega)
  have hs5 := ht5.size
  have hB5 := hb.trans (ht5.below (B := w.heap.size) (by omega) fun k hk e => by omega)
  clear n1 n2 n3 hb hnode3 ht5 hx0 hnode
  go_wp2_with fail
  have hb6 := alloc_below w5 (.cells #[.func (Fn.func 75) #[] #[.pointer (some ⟨w5.heap.size, 0, none⟩)]] 104)
  have hn6 := heap_new w5 (.cells #[.func (Fn.func 75) #[] #[.pointer (some ⟨w5.heap.size, 0, none⟩)]] 104)
  refine (sinkC_any (bw := w5.heap.size) x _ g o _ 65 (hnode5.keep (hb6.block g hnode5.lt)) (hx5.below hb6) (one_cell hn6) (by omega) (by omega)).mono ?_
  rintro e w7 ⟨rfl, nq, hw7⟩
  have hb7 : Below w5.heap.size w5 w7 := by rw [hw7]; exact below_drewN hb6 nq
  have n17 : w7.heap[w.heap.size]? = _ := (hb7.block _ (by omega)).trans n15
  have n27 : w7.heap[w.heap.size + 1]? = _ := (hb7.block _ (by omega)).trans hb5
  have hB7 := hB5.trans (hb7.mono hB5.size)
  clear hw7 hb6 hn6 hb7 n15 hb5 hx5 hnode5 hs5 hs
  obtain ⟨c0, c1, f0, f1⟩ := two_cell n17
  obtain ⟨d0, d1, e0, e1⟩ := two_cell n27
  have n28 := (two_set (u := .int .i64 (x.dp 65)) n27).2
  have n18 : (w7.setCell ⟨w.heap.size + 1, 1, none⟩ (.int .i64 (x.dp 65))).heap[w.heap.size]? = _ := (Below.heap_setCell _ _ _ _ (show w.heap.size ≠ w.heap.size + 1 by omega)).trans n17
  obtain ⟨c08, c18, f08, f18⟩ := two_cell n18
  obtain ⟨d08, d18, _, _⟩ := two_cell n28
  have hB8 := hB7.setCell (p := ⟨w.heap.size + 1, 1, none⟩) (by show w.heap.size ≤ w.heap.size + 1; omega) (.int .i64 (x.dp 65))
  go_wp2_with fail
  refine bodyPost_ret (v := .agg #[.int .i64 (x.sz 4097), .int .i64 (x.dp 65)]) (by simp only [results, Tryz.results55]; go_simp) rfl ⟨rfl, ?_⟩
  exact (hB8.setCell (p := ⟨w.heap.size, 0, none⟩) (Nat.le_refl _) _).setCell (p := ⟨w.heap.size, 1, none⟩) (Nat.le_refl _) _

/-- Is a tree within the limits? -/
def fitsB (x : Tr) : Bool := decide (x.sz 4097 ≤ 4096) && decide (x.dp 65 ≤ 64)
set_option maxHeartbeats 400000 in
theorem sfits_any (w : World) (a b : Int) : Calls Tryz.prog 56 #[.agg #[.int .i64 a, .int .i64 b]] w fun e w' => e = .returned (.bool (decide (a ≤ 4096) && decide (b ≤ 64))) ∧ Below w.heap.size w w' := by
  by_cases h : a ≤ 4096
  all_goals
    go_enter Tryz.func56, Tryz.ntmps56
    go_wp2
    go_ret
    exact ⟨ret_bool (by rw [Bool.eq_iff_iff]; simp; try omega), alloc_below _ _⟩

set_option maxHeartbeats 4000000 in
set_option maxRecDepth 100000 in
theorem only_any {w : World} {g o : Nat} {x : Tr} {p : Option Addr} {c : Nat} (h : NodeAt w g o x (.slice p x.l.length c)) (n s t l : Bool) :
    Calls Tryz.prog 91 #[.agg #[.bool n, .bool s, .bool t, .bool l], .pointer (some ⟨g, o, none⟩)] w fun e w' => e = .returned (.bool (bareB x n s t l)) ∧ Below w.heap.size w w' := by
  have h1 := h.keep ((alloc_below w (.cells #[.bool n, .bool s, .bool t, .bool l] 114)).block g h.lt)
  obtain ⟨e0, e1, e2, e3, e4⟩ := h1
  clear h
  cases n <;> cases s <;> cases t <;> cases l
  all_goals
    go_enter Tryz.func91, Tryz.ntmps91
    go_wp2
    all_goals
      go_ret
      exact ⟨ret_bool (by simp [bareB, emp, *]), alloc_below _ _⟩

set_option maxHeartbeats 4000000 in
set_option maxRecDepth 100000 in
theorem rbareN_any (w : World) (x : Tr) (p : Option Addr) (c : Nat) (n s t l : Bool) :
    Calls Tryz.prog 67 #[.agg #[.int .i8 x.k, .int .i64 x.n, .string x.s, .string x.t, .slice p x.l.length c], .bool n, .bool s, .bool t, .bool l] w fun e w' => e = .returned (.bool (bareB x n s t l)) ∧ Below w.heap.size w w' := by
  obtain ⟨e0, e1, e2, e3, e4⟩ := box5 w (.int .i8 x.k) (.int .i64 x.n) (.string x.s) (.string x.t) (.slice p x.l.length c) 25
  cases n <;> cases s <;> cases t <;> cases l
  all_goals
    go_enter Tryz.func67, Tryz.ntmps67
    go_wp2
    all_goals
      go_ret
      exact ⟨ret_bool (by simp [bareB, emp, *]), alloc_below _ _⟩

end Go.Proofs.YtjnmdbfijdnaiaaGreatDoor
