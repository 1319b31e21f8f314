/-
  pleachlaw21.wakes answers true. No condition.
-/
import Derived.Test.YtjkdmdddgiomjaaGone
namespace Go.Proofs.Ytjkdmdddgiomjaa
open Go.RowKit Go.Maps

theorem newSeen_cells {W : World} {base g cap : Nat} {l : List (Int × Int × Int)} (h : NewSeen base W (.slice (some ⟨g, 0, none⟩) l.length cap) l) {k : Nat} (hk : k < l.length) :
    W.cell? ⟨g, 3 * k, none⟩ = some (.int .i64 l[k].1) ∧ W.cell? ⟨g, 3 * k + 1, none⟩ = some (.int .i64 l[k].2.1) ∧ W.cell? ⟨g, 3 * k + 2, none⟩ = some (.int .i64 l[k].2.2) := by
  obtain ⟨_, h | ⟨g', cap', cur, he, _, hh, _, _, _, ht⟩⟩ := h.1
  · simp at h
  · simp at he
    obtain ⟨rfl, rfl⟩ := he
    have hfm : ∀ (l : List (Int × Int × Int)) (k : Nat) (hk : k < l.length), (l.flatMap seenCells)[3 * k]? = some (.int .i64 l[k].1) ∧ (l.flatMap seenCells)[3 * k + 1]? = some (.int .i64 l[k].2.1) ∧ (l.flatMap seenCells)[3 * k + 2]? = some (.int .i64 l[k].2.2) := by
      intro l
      induction l with
      | nil => intro k hk; simp at hk
      | cons m r ih =>
        intro k hk
        cases k with
        | zero => simp [seenCells]
        | succ k =>
          have := ih k (by simpa using hk)
          rw [show 3 * (k + 1) = 3 * k + 3 from by omega]
          simp only [List.flatMap_cons, seenCells, List.cons_append, List.nil_append, List.getElem_cons_succ]
          exact this
    have hc := hfm l k hk
    have hget : ∀ j, j < l.length * 3 → ∀ u, (l.flatMap seenCells)[j]? = some u → W.cell? ⟨g, j, none⟩ = some u := by
      intro j hj u hu
      rw [← ht, List.getElem?_take, if_pos hj] at hu
      simp [World.cell?, hh]
      simpa using hu
    exact ⟨hget _ (by omega) _ hc.1, hget _ (by omega) _ hc.2.1, hget _ (by omega) _ hc.2.2⟩

theorem ints_big {W : World} {base : Nat} {v : Value} {l : List Int} (h : W.ownsRow base 3 1 v l.length (l.map (Value.int .i64))) (hn : v = .slice none 0 0 ↔ l = []) (hl : 0 < l.length) :
    ∃ g cap, v = .slice (some ⟨g, 0, none⟩) l.length cap ∧ base ≤ g ∧ g < W.heap.size ∧ (∀ k (hk : k < l.length), W.cell? ⟨g, k, none⟩ = some (.int .i64 l[k])) := by
  rcases ints_cases h hn with ⟨_, rfl⟩ | ⟨g, cap, h1, h2, h3, _, h4, _⟩
  · simp at hl
  · exact ⟨g, cap, h1, h2, h3, h4⟩

theorem i64 {n : Int} (h : -9223372036854775808 ≤ n ∧ n ≤ 9223372036854775807) : I64 n := WalkArith.wf_i64 h

set_option maxRecDepth 100000 in
set_option maxHeartbeats 4000000 in
theorem wakes_any (w : World) : Calls Try.prog 7 #[] w fun e w' => e = .returned (.bool true) ∧ Below w.heap.size w w' := by
  go_enter Try.func7, Try.ntmps7
  go_wp2_with (first
    | (go_at_call 8; refine (new_any _).mono ?_; rintro e w1 ⟨B, bl, bp, bs, rfl, hW1, hlo, hb1⟩)
    | (go_at_call 30; refine (link_any hW1 (by decide) (i64 (by omega)) (i64 (by omega))).mono ?_; rintro e w2 ⟨he2, hL2⟩; rw [he2]; clear he2; simp only [show (linkS 1 2 (adj []) fun _ _ => false).1 = 0 from by decide])
    | (go_at_call 31; obtain ⟨⟨il2, hW2, had2, hfr2⟩, hT2⟩ := hL2; refine (watch_any hW2 (by decide) (by omega) (by decide) (fun m hm => by cases hm) 3 2).mono ?_; rintro e w3 ⟨he3, hW3, hT3⟩; rw [he3]; clear he3; simp only [show (watchS [] 0 3 2) = (1, 0, [(1, 3, 2)], 1) from by decide] at hW3 ⊢)
    | (go_at_call 32; have ha2 : adj il2 2 = [1] := (had2 2).trans (by decide); refine (gone_any hW3 (by rw [ha2]; decide) (i64 (by omega)) (by omega)).mono ?_; rintro e w4 ⟨v, v3, rfl, hv, hv3, hL4⟩; rw [ha2] at hv hL4; simp only [show ([(1, 3, 2)] : List (Int × Int × Int)).filter (fun m => m.2.2 == 2) = [(1, 3, 2)] from by decide] at hv3; obtain ⟨g3, cap3, rfl, hg3, _⟩ := seen_big hv3 (by decide); obtain ⟨q0, q1, q2⟩ := newSeen_cells (k := 0) hv3 (by decide); obtain ⟨g4, cap4, rfl, _, _, hcl⟩ := ints_big hv.1 hv.2 (by decide); have q4 := hcl 0 (by decide); clear hcl)
    | (go_at_call 10; obtain ⟨⟨il5, hW5, had5, hfr5⟩, hT5⟩ := hL4; refine (linked_any hW5 (i64 (by omega)) (i64 (by omega))).mono ?_; rintro e w5 ⟨he5, rfl⟩; have hS5 : (goneF 2 [1] (adj il2, (linkS 1 2 (adj []) fun _ _ => false).2.2)).2 (min 1 2) (max 1 2) = false := rfl; rw [hS5] at he5; rw [he5]; clear he5))
  go_ret
  refine ⟨rfl, hb1.trans ?_⟩
  have hT : ∀ k, k < w.heap.size → ¬ k ∈ wb B bl bp bs [] := fun k hk hm => by have := hlo k hm; omega
  have h12 := hT2.below (B := w.heap.size) hb1.size hT
  have hfr2' : ∀ k, k < w.heap.size → ¬ k ∈ wb B bl bp bs il2 := fun k hk hm => hT k hk (wb_fresh hfr2 (by have := hb1.size; omega) hm)
  have h23 := hT3.below (B := w.heap.size) (Nat.le_trans hb1.size hT2.size) hfr2'
  have h34 := hT5.below (B := w.heap.size) (Nat.le_trans (Nat.le_trans hb1.size hT2.size) hT3.size) hfr2'
  exact (h12.trans h23).trans h34
end Go.Proofs.Ytjkdmdddgiomjaa
