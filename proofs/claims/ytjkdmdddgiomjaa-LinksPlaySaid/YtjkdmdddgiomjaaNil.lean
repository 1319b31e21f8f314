/-
  pleachlaw21.ask at no web. No condition.
-/
import Derived.Test.YtjkdmdddgiomjaaWakes
namespace Go.Proofs.Ytjkdmdddgiomjaa
open Go.RowKit Go.Maps

theorem heap3 (w : World) (o1 o2 o3 : Obj) : (((w.alloc o1).alloc o2).alloc o3).heap[w.heap.size]? = some o1 ∧ (((w.alloc o1).alloc o2).alloc o3).heap[w.heap.size + 1]? = some o2 ∧ (((w.alloc o1).alloc o2).alloc o3).heap[w.heap.size + 1 + 1]? = some o3 ∧ (((w.alloc o1).alloc o2).alloc o3).heap.size = w.heap.size + 1 + 1 + 1 := by
  have e1 : (w.alloc o1).heap.size = w.heap.size + 1 := by simp
  have e2 : ((w.alloc o1).alloc o2).heap.size = w.heap.size + 1 + 1 := by simp
  refine ⟨?_, ?_, ?_, by simp⟩
  · rw [Below.heap_alloc _ _ _ (by omega), Below.heap_alloc _ _ _ (by omega)]
    exact (MapKept.heap_alloc w o1).1
  · rw [Below.heap_alloc _ _ _ (by omega)]
    have := (MapKept.heap_alloc (w.alloc o1) o2).1
    rwa [e1] at this
  · have := (MapKept.heap_alloc ((w.alloc o1).alloc o2) o3).1
    rwa [e2] at this

/-- A block of five cells. -/
structure Blk5 (w : World) (b : Nat) (x0 x1 x2 x3 x4 : Value) : Prop where
  c0 : w.cell? ⟨b, 0, none⟩ = some x0
  c1 : w.cell? ⟨b, 1, none⟩ = some x1
  c2 : w.cell? ⟨b, 2, none⟩ = some x2
  c3 : w.cell? ⟨b, 3, none⟩ = some x3
  c4 : w.cell? ⟨b, 4, none⟩ = some x4
  fr : ∀ i, w.frozen? ⟨b, i, none⟩ = false
theorem blk5 {w : World} {b : Nat} {x0 x1 x2 x3 x4 : Value} {t : TypeId} (h : w.heap[b]? = some (.cells #[x0, x1, x2, x3, x4] t)) : Blk5 w b x0 x1 x2 x3 x4 := by
  refine ⟨?_, ?_, ?_, ?_, ?_, fun i => ?_⟩ <;> simp [World.cell?, World.frozen?, h]

/-- The world in which ask calls. -/
def askW (w : World) (d a b : Int) : World := ((w.alloc (.cells #[.int .i64 d, .int .i64 a, .int .i64 b] 27)).alloc (.cells #[.int .i64 0, .bool false, .slice none 0 0, .slice none 0 0, .int .i64 0] 32)).alloc (.cells #[.int .i64 0, .bool false, .slice none 0 0, .slice none 0 0, .int .i64 0] 32)
theorem askW_below (w : World) (d a b : Int) : Below w.heap.size w (askW w d a b) := (((Below.refl _ w).alloc (Nat.le_refl _) _).alloc (by simp) _).alloc (by simp; omega) _
theorem askW_size (w : World) (d a b : Int) : (askW w d a b).heap.size = w.heap.size + 1 + 1 + 1 := (heap3 w _ _ _).2.2.2
theorem askBlks {w w' : World} {d a b : Int} {T : Nat → Prop} (ht : Turn T (askW w d a b) w') (hT : ∀ k, w.heap.size ≤ k → ¬ T k) :
    Blk5 w' (w.heap.size + 1) (.int .i64 0) (.bool false) (.slice none 0 0) (.slice none 0 0) (.int .i64 0) ∧ Blk5 w' (w.heap.size + 1 + 1) (.int .i64 0) (.bool false) (.slice none 0 0) (.slice none 0 0) (.int .i64 0) ∧ w.heap.size + 1 + 1 + 1 ≤ w'.heap.size := by
  have h3 := heap3 w (.cells #[.int .i64 d, .int .i64 a, .int .i64 b] 27) (.cells #[.int .i64 0, .bool false, .slice none 0 0, .slice none 0 0, .int .i64 0] 32) (.cells #[.int .i64 0, .bool false, .slice none 0 0, .slice none 0 0, .int .i64 0] 32)
  have hsz := askW_size w d a b
  refine ⟨blk5 ((ht.block _ (by omega) (hT _ (by omega))).trans h3.2.1), blk5 ((ht.block _ (by omega) (hT _ (by omega))).trans h3.2.2.1), by have := ht.size; omega⟩

theorem below_set5 {W w' : World} {n : Nat} (h : Below n W w') {b : Nat} (hb : n ≤ b) (i : Nat) (v : Value) : Below n W (w'.setCell ⟨b, i, none⟩ v) := h.setCell hb v

set_option maxRecDepth 100000 in
set_option maxHeartbeats 2000000 in
theorem ask_nil (w : World) (d a b : Int) : Calls Try.prog 9 #[.pointer none, .agg #[.int .i64 d, .int .i64 a, .int .i64 b]] w fun e w' => e = .returned (.agg #[.int .i64 0, .bool false, .slice none 0 0, .slice none 0 0, .int .i64 1]) ∧ Below w.heap.size w w' := by
  have hW := askW_below w d a b
  unfold askW at hW
  have hc : d = 0 ∨ d = 1 ∨ d = 2 ∨ d = 3 ∨ d = 4 ∨ (d ≠ 0 ∧ d ≠ 1 ∧ d ≠ 2 ∧ d ≠ 3 ∧ d ≠ 4) := by omega
  rcases hc with rfl | rfl | rfl | rfl | rfl | ⟨h0, h1, h2, h3, h4⟩
  · go_enter Try.func9, Try.ntmps9
    go_wp2_with (go_at_call 30; refine (link_nil _ _ _).mono ?_; rintro e w' ⟨rfl, rfl⟩)
    refine bodyPost_ret (v := .agg #[.int .i64 0, .bool false, .slice none 0 0, .slice none 0 0, .int .i64 1]) (by simp only [results, Try.results9]; go_simp) rfl ⟨rfl, ?_⟩
    exact (((Below.refl _ w).alloc (Nat.le_refl _) _).alloc (by simp) _).alloc (by simp; omega) _
  · go_enter Try.func9, Try.ntmps9
    go_wp2_with (go_at_call 13; refine (cut_nil _ _ _).mono ?_; rintro e w' ⟨rfl, rfl⟩)
    refine bodyPost_ret (v := .agg #[.int .i64 0, .bool false, .slice none 0 0, .slice none 0 0, .int .i64 1]) (by simp only [results, Try.results9]; go_simp) rfl ⟨rfl, ?_⟩
    exact (((Below.refl _ w).alloc (Nat.le_refl _) _).alloc (by simp) _).alloc (by simp; omega) _
  · go_enter Try.func9, Try.ntmps9
    go_wp2_with (go_at_call 31; refine (watch_nil _ _ _).mono ?_; rintro e w' ⟨rfl, rfl⟩)
    refine bodyPost_ret (v := .agg #[.int .i64 0, .bool false, .slice none 0 0, .slice none 0 0, .int .i64 1]) (by simp only [results, Try.results9]; go_simp) rfl ⟨rfl, ?_⟩
    exact (((Below.refl _ w).alloc (Nat.le_refl _) _).alloc (by simp) _).alloc (by simp; omega) _
  · go_enter Try.func9, Try.ntmps9
    go_wp2_with (go_at_call 33; refine (leave_nil _ _).mono ?_; rintro e w' ⟨rfl, rfl⟩)
    refine bodyPost_ret (v := .agg #[.int .i64 0, .bool false, .slice none 0 0, .slice none 0 0, .int .i64 1]) (by simp only [results, Try.results9]; go_simp) rfl ⟨rfl, ?_⟩
    exact (((Below.refl _ w).alloc (Nat.le_refl _) _).alloc (by simp) _).alloc (by simp; omega) _
  · go_enter Try.func9, Try.ntmps9
    go_wp2_with (go_at_call 32; refine (gone_nil _ _).mono ?_; rintro e w' ⟨rfl, hb⟩; obtain ⟨⟨p0, p1, p2, p3, p4, pf⟩, ⟨q0, q1, q2, q3, q4, qf⟩, hsz⟩ := askBlks (Turn.of_below (T := fun _ => False) hb) (fun _ _ h => h); have pf0 := pf 0; have pf1 := pf 1; have pf2 := pf 2; have pf3 := pf 3; have pf4 := pf 4; have qf0 := qf 0; have qf1 := qf 1; have qf2 := qf 2; have qf3 := qf 3; have qf4 := qf 4; clear pf qf)
    refine bodyPost_ret (v := .agg #[.int .i64 0, .bool false, .slice none 0 0, .slice none 0 0, .int .i64 1]) (by simp only [results, Try.results9]; go_simp) rfl ⟨rfl, ?_⟩
    repeat (with_reducible refine below_set5 ?_ (by omega) _ _)
    exact hW.trans (hb.mono hW.size)
  · go_enter Try.func9, Try.ntmps9
    go_wp2_with (go_at_call 34; refine (next_nil _).mono ?_; rintro e w' ⟨rfl, rfl⟩)
    refine bodyPost_ret (v := .agg #[.int .i64 0, .bool false, .slice none 0 0, .slice none 0 0, .int .i64 1]) (by simp only [results, Try.results9]; go_simp) rfl ⟨rfl, ?_⟩
    exact (((Below.refl _ w).alloc (Nat.le_refl _) _).alloc (by simp) _).alloc (by simp; omega) _

set_option maxRecDepth 100000 in
set_option maxHeartbeats 2000000 in
theorem linksNil_any (w : World) (d x y a b : Int) : Calls Try.prog 6 #[.agg #[.int .i64 d, .int .i64 x, .int .i64 y], .int .i64 a, .int .i64 b] w fun e w' => e = .returned (.bool true) ∧ Below w.heap.size w w' := by
  go_enter Try.func6, Try.ntmps6
  go_wp2_with (first
    | (go_at_call 9; refine (ask_nil _ _ _ _).mono ?_; rintro e w1 ⟨rfl, hb1⟩)
    | (go_at_call 10; refine (linked_nil _ _ _).mono ?_; rintro e w2 ⟨rfl, rfl⟩)
    | (go_at_call 11; refine (links_nil _ _).mono ?_; rintro e w2 ⟨rfl, rfl⟩)
    | (go_at_call 12; refine (watches_nil _ _).mono ?_; rintro e w3 ⟨rfl, hb3⟩)
    | (go_at_call 26; refine (watchers_nil _ _).mono ?_; rintro e w4 ⟨rfl, hb4⟩)
    | (go_at_call 28; refine (last_nil _).mono ?_; rintro e w5 ⟨rfl, rfl⟩)
    | (go_at_call 7; refine (wakes_any _).mono ?_; rintro e w6 ⟨rfl, hb6⟩))
  go_ret
  have e1 : Below w.heap.size w w1 := ((Below.refl _ w).alloc (Nat.le_refl _) _).trans (hb1.mono (by simp))
  have e2 := e1.alloc (by exact e1.size) (.cells #[.int .i64 0, .bool false, .slice none 0 0, .slice none 0 0, .int .i64 1] 32)
  have e3 := e2.trans (hb3.mono e2.size)
  have e4 := e3.trans (hb4.mono e3.size)
  exact ⟨rfl, e4.trans (hb6.mono e4.size)⟩
end Go.Proofs.Ytjkdmdddgiomjaa
