/-
  The reference's look at a term's node: pleachref03.bare, one. Conditions: as said.
-/
import Derived.Test.YtjnmdbfijdnaiaaGreatDoorTerm2
namespace Go.Proofs.YtjnmdbfijdnaiaaGreatDoor
open Go.RowKit

theorem box5 (w : World) (a b c d e : Value) (T : TypeId) : (w.alloc (.cells #[a, b, c, d, e] T)).cell? ⟨w.heap.size, 0, none⟩ = some a ∧ (w.alloc (.cells #[a, b, c, d, e] T)).cell? ⟨w.heap.size, 1, none⟩ = some b ∧ (w.alloc (.cells #[a, b, c, d, e] T)).cell? ⟨w.heap.size, 2, none⟩ = some c ∧
    (w.alloc (.cells #[a, b, c, d, e] T)).cell? ⟨w.heap.size, 3, none⟩ = some d ∧ (w.alloc (.cells #[a, b, c, d, e] T)).cell? ⟨w.heap.size, 4, none⟩ = some e := by
  refine ⟨?_, ?_, ?_, ?_, ?_⟩ <;> (rw [World.cell?_alloc_at _ _ _ _ (by simp)]; rfl)

set_option maxHeartbeats 4000000 in
set_option maxRecDepth 100000 in
theorem rbare_any (w : World) (x : Tr) (p : Option Addr) (c : Nat) (n s t l : Bool) :
    Calls Tryz.prog 87 #[.agg #[.int .i8 x.k, .int .i64 x.n, .string x.s, .string x.t, .slice p x.l.length c], .bool n, .bool s, .bool t, .bool l] w fun e w' => e = .returned (.bool (bareB x n s t l)) ∧ Below w.heap.size w w' := by
  obtain ⟨e0, e1, e2, e3, e4⟩ := box5 w (.int .i8 x.k) (.int .i64 x.n) (.string x.s) (.string x.t) (.slice p x.l.length c) 28
  cases n <;> cases s <;> cases t <;> cases l
  all_goals
    go_enter Tryz.func87, Tryz.ntmps87
    go_wp2
    all_goals
      go_ret
      exact ⟨ret_bool (by simp [bareB, emp, *]), alloc_below _ _⟩

set_option maxHeartbeats 4000000 in
set_option maxRecDepth 100000 in
theorem rone_any (w : World) (x : Tr) (p : Option Addr) (c : Nat) (hw : NodeWf x) :
    Calls Tryz.prog 68 #[.agg #[.int .i8 x.k, .int .i64 x.n, .string x.s, .string x.t, .slice p x.l.length c]] w fun e w' => e = .returned (.bool (oneB x)) ∧ Below w.heap.size w w' := by
  obtain ⟨e0, e1, e2, e3, e4⟩ := box5 w (.int .i8 x.k) (.int .i64 x.n) (.string x.s) (.string x.t) (.slice p x.l.length c) 28
  have hb0 := alloc_below w (.cells #[.int .i8 x.k, .int .i64 x.n, .string x.s, .string x.t, .slice p x.l.length c] 28)
  have cB := fun W => rbare_any W x p c
  have hS := wf_s hw
  have hT := wf_t hw
  have cM := fun (W : World) (u : ByteArray) (hu : u = x.s ∨ u = x.t) => rmay_any W u (by rcases hu with rfl | rfl <;> assumption)
  clear hw
  by_cases h0 : x.k = 0
  · rw [h0] at cB
    cases hb : bareB x true false false false
    · have HV : Hid (oneB x = false) := by unfold Hid oneB; simp [h0, hb]
      have HB := Lib.hid hb
      rw [h0] at e0 hb0 e1 e2 e3 e4 ⊢
      clear hb h0
      go_enter Tryz.func68, Tryz.ntmps68
      go_wp2_with (first | (go_at_call 87; refine (cB _ _ _ _ _).mono ?_; rintro e w1 ⟨rfl, hb1⟩; rw [HB.out]; have e1 := (hb1.cell (p := ⟨w.heap.size, 1, none⟩) (cell_block e1)).trans e1; have e2 := (hb1.cell (p := ⟨w.heap.size, 2, none⟩) (cell_block e2)).trans e2; have e3 := (hb1.cell (p := ⟨w.heap.size, 3, none⟩) (cell_block e3)).trans e3; have e4 := (hb1.cell (p := ⟨w.heap.size, 4, none⟩) (cell_block e4)).trans e4))
      go_ret
      exact ⟨by rw [HV.out]; rfl, hb0.trans (hb1.mono hb0.size)⟩
    · have HV : Hid (oneB x = (mayI x.n)) := by unfold Hid oneB; simp [h0, hb]
      have HB := Lib.hid hb
      rw [h0] at e0 hb0 e1 e2 e3 e4 ⊢
      clear hb h0
      go_enter Tryz.func68, Tryz.ntmps68
      go_wp2_with (first | (go_at_call 87; refine (cB _ _ _ _ _).mono ?_; rintro e w1 ⟨rfl, hb1⟩; rw [HB.out]; have e1 := (hb1.cell (p := ⟨w.heap.size, 1, none⟩) (cell_block e1)).trans e1; have e2 := (hb1.cell (p := ⟨w.heap.size, 2, none⟩) (cell_block e2)).trans e2; have e3 := (hb1.cell (p := ⟨w.heap.size, 3, none⟩) (cell_block e3)).trans e3; have e4 := (hb1.cell (p := ⟨w.heap.size, 4, none⟩) (cell_block e4)).trans e4) | (go_at_call 85; refine (rintsMay_any _ _).mono ?_; rintro e w' ⟨rfl, rfl⟩))
      go_ret
      exact ⟨by rw [HV.out]; rfl, hb0.trans (hb1.mono hb0.size)⟩
  by_cases h1 : x.k = 1
  · rw [h1] at cB
    cases hb : bareB x false true false false
    · have HV : Hid (oneB x = false) := by unfold Hid oneB; simp [h1, hb]
      have HB := Lib.hid hb
      rw [h1] at e0 hb0 e1 e2 e3 e4 ⊢
      clear hb h0 h1
      go_enter Tryz.func68, Tryz.ntmps68
      go_wp2_with (first | (go_at_call 87; refine (cB _ _ _ _ _).mono ?_; rintro e w1 ⟨rfl, hb1⟩; rw [HB.out]; have e1 := (hb1.cell (p := ⟨w.heap.size, 1, none⟩) (cell_block e1)).trans e1; have e2 := (hb1.cell (p := ⟨w.heap.size, 2, none⟩) (cell_block e2)).trans e2; have e3 := (hb1.cell (p := ⟨w.heap.size, 3, none⟩) (cell_block e3)).trans e3; have e4 := (hb1.cell (p := ⟨w.heap.size, 4, none⟩) (cell_block e4)).trans e4))
      go_ret
      exact ⟨by rw [HV.out]; rfl, hb0.trans (hb1.mono hb0.size)⟩
    · have HV : Hid (oneB x = (mayA x.s)) := by unfold Hid oneB; simp [h1, hb]
      have HB := Lib.hid hb
      rw [h1] at e0 hb0 e1 e2 e3 e4 ⊢
      clear hb h0 h1
      go_enter Tryz.func68, Tryz.ntmps68
      go_wp2_with (first | (go_at_call 87; refine (cB _ _ _ _ _).mono ?_; rintro e w1 ⟨rfl, hb1⟩; rw [HB.out]; have e1 := (hb1.cell (p := ⟨w.heap.size, 1, none⟩) (cell_block e1)).trans e1; have e2 := (hb1.cell (p := ⟨w.heap.size, 2, none⟩) (cell_block e2)).trans e2; have e3 := (hb1.cell (p := ⟨w.heap.size, 3, none⟩) (cell_block e3)).trans e3; have e4 := (hb1.cell (p := ⟨w.heap.size, 4, none⟩) (cell_block e4)).trans e4) | (go_at_call 88; refine (cM _ _ (.inl rfl)).mono ?_; rintro e w' ⟨rfl, rfl⟩))
      go_ret
      exact ⟨by rw [HV.out]; rfl, hb0.trans (hb1.mono hb0.size)⟩
  by_cases h2 : x.k = 2
  · rw [h2] at cB
    cases hb : bareB x true false false false
    · have HV : Hid (oneB x = false) := by unfold Hid oneB; simp [h2, hb]
      have HB := Lib.hid hb
      rw [h2] at e0 hb0 e1 e2 e3 e4 ⊢
      clear hb h0 h1 h2
      go_enter Tryz.func68, Tryz.ntmps68
      go_wp2_with (first | (go_at_call 87; refine (cB _ _ _ _ _).mono ?_; rintro e w1 ⟨rfl, hb1⟩; rw [HB.out]; have e1 := (hb1.cell (p := ⟨w.heap.size, 1, none⟩) (cell_block e1)).trans e1; have e2 := (hb1.cell (p := ⟨w.heap.size, 2, none⟩) (cell_block e2)).trans e2; have e3 := (hb1.cell (p := ⟨w.heap.size, 3, none⟩) (cell_block e3)).trans e3; have e4 := (hb1.cell (p := ⟨w.heap.size, 4, none⟩) (cell_block e4)).trans e4))
      go_ret
      exact ⟨by rw [HV.out]; rfl, hb0.trans (hb1.mono hb0.size)⟩
    · have HV : Hid (oneB x = (decide (0 ≤ x.n) && decide (x.n ≤ 576460752303423487))) := by unfold Hid oneB; simp [h2, hb]
      have HB := Lib.hid hb
      rw [h2] at e0 hb0 e1 e2 e3 e4 ⊢
      clear hb h0 h1 h2
      by_cases h0 : 0 ≤ x.n
      · go_enter Tryz.func68, Tryz.ntmps68
        go_wp2_with (first | (go_at_call 87; refine (cB _ _ _ _ _).mono ?_; rintro e w1 ⟨rfl, hb1⟩; rw [HB.out]; have e1 := (hb1.cell (p := ⟨w.heap.size, 1, none⟩) (cell_block e1)).trans e1; have e2 := (hb1.cell (p := ⟨w.heap.size, 2, none⟩) (cell_block e2)).trans e2; have e3 := (hb1.cell (p := ⟨w.heap.size, 3, none⟩) (cell_block e3)).trans e3; have e4 := (hb1.cell (p := ⟨w.heap.size, 4, none⟩) (cell_block e4)).trans e4))
        go_ret
        exact ⟨by rw [HV.out]; rw [decide_eq_true h0]; rfl, hb0.trans (hb1.mono hb0.size)⟩
      · go_enter Tryz.func68, Tryz.ntmps68
        go_wp2_with (first | (go_at_call 87; refine (cB _ _ _ _ _).mono ?_; rintro e w1 ⟨rfl, hb1⟩; rw [HB.out]; have e1 := (hb1.cell (p := ⟨w.heap.size, 1, none⟩) (cell_block e1)).trans e1; have e2 := (hb1.cell (p := ⟨w.heap.size, 2, none⟩) (cell_block e2)).trans e2; have e3 := (hb1.cell (p := ⟨w.heap.size, 3, none⟩) (cell_block e3)).trans e3; have e4 := (hb1.cell (p := ⟨w.heap.size, 4, none⟩) (cell_block e4)).trans e4))
        go_ret
        exact ⟨by rw [HV.out]; rw [decide_eq_false (by omega)]; rfl, hb0.trans (hb1.mono hb0.size)⟩
  by_cases h4 : x.k = 4
  · rw [h4] at cB
    cases hb : bareB x true false false false
    · have HV : Hid (oneB x = false) := by unfold Hid oneB; simp [h4, hb]
      have HB := Lib.hid hb
      rw [h4] at e0 hb0 e1 e2 e3 e4 ⊢
      clear hb h0 h1 h2 h4
      go_enter Tryz.func68, Tryz.ntmps68
      go_wp2_with (first | (go_at_call 87; refine (cB _ _ _ _ _).mono ?_; rintro e w1 ⟨rfl, hb1⟩; rw [HB.out]; have e1 := (hb1.cell (p := ⟨w.heap.size, 1, none⟩) (cell_block e1)).trans e1; have e2 := (hb1.cell (p := ⟨w.heap.size, 2, none⟩) (cell_block e2)).trans e2; have e3 := (hb1.cell (p := ⟨w.heap.size, 3, none⟩) (cell_block e3)).trans e3; have e4 := (hb1.cell (p := ⟨w.heap.size, 4, none⟩) (cell_block e4)).trans e4))
      go_ret
      exact ⟨by rw [HV.out]; rfl, hb0.trans (hb1.mono hb0.size)⟩
    · have HV : Hid (oneB x = (decide (0 ≤ x.n) && decide (x.n ≤ 576460752303423487))) := by unfold Hid oneB; simp [h4, hb]
      have HB := Lib.hid hb
      rw [h4] at e0 hb0 e1 e2 e3 e4 ⊢
      clear hb h0 h1 h2 h4
      by_cases h0 : 0 ≤ x.n
      · go_enter Tryz.func68, Tryz.ntmps68
        go_wp2_with (first | (go_at_call 87; refine (cB _ _ _ _ _).mono ?_; rintro e w1 ⟨rfl, hb1⟩; rw [HB.out]; have e1 := (hb1.cell (p := ⟨w.heap.size, 1, none⟩) (cell_block e1)).trans e1; have e2 := (hb1.cell (p := ⟨w.heap.size, 2, none⟩) (cell_block e2)).trans e2; have e3 := (hb1.cell (p := ⟨w.heap.size, 3, none⟩) (cell_block e3)).trans e3; have e4 := (hb1.cell (p := ⟨w.heap.size, 4, none⟩) (cell_block e4)).trans e4))
        go_ret
        exact ⟨by rw [HV.out]; rw [decide_eq_true h0]; rfl, hb0.trans (hb1.mono hb0.size)⟩
      · go_enter Tryz.func68, Tryz.ntmps68
        go_wp2_with (first | (go_at_call 87; refine (cB _ _ _ _ _).mono ?_; rintro e w1 ⟨rfl, hb1⟩; rw [HB.out]; have e1 := (hb1.cell (p := ⟨w.heap.size, 1, none⟩) (cell_block e1)).trans e1; have e2 := (hb1.cell (p := ⟨w.heap.size, 2, none⟩) (cell_block e2)).trans e2; have e3 := (hb1.cell (p := ⟨w.heap.size, 3, none⟩) (cell_block e3)).trans e3; have e4 := (hb1.cell (p := ⟨w.heap.size, 4, none⟩) (cell_block e4)).trans e4))
        go_ret
        exact ⟨by rw [HV.out]; rw [decide_eq_false (by omega)]; rfl, hb0.trans (hb1.mono hb0.size)⟩
  by_cases h3 : x.k = 3
  · rw [h3] at cB
    cases hb : bareB x true true true false
    · have HV : Hid (oneB x = false) := by unfold Hid oneB; simp [h3, hb]
      have HB := Lib.hid hb
      rw [h3] at e0 hb0 e1 e2 e3 e4 ⊢
      clear hb h0 h1 h2 h4 h3
      go_enter Tryz.func68, Tryz.ntmps68
      go_wp2_with (first | (go_at_call 87; refine (cB _ _ _ _ _).mono ?_; rintro e w1 ⟨rfl, hb1⟩; rw [HB.out]; have e1 := (hb1.cell (p := ⟨w.heap.size, 1, none⟩) (cell_block e1)).trans e1; have e2 := (hb1.cell (p := ⟨w.heap.size, 2, none⟩) (cell_block e2)).trans e2; have e3 := (hb1.cell (p := ⟨w.heap.size, 3, none⟩) (cell_block e3)).trans e3; have e4 := (hb1.cell (p := ⟨w.heap.size, 4, none⟩) (cell_block e4)).trans e4))
      go_ret
      exact ⟨by rw [HV.out]; rfl, hb0.trans (hb1.mono hb0.size)⟩
    · have HV : Hid (oneB x = (mayA x.s && mayA x.t && (decide (0 ≤ x.n) && decide (x.n ≤ 8)))) := by unfold Hid oneB; simp [h3, hb]
      have HB := Lib.hid hb
      rw [h3] at e0 hb0 e1 e2 e3 e4 ⊢
      clear hb h0 h1 h2 h4 h3
      cases hs : mayA x.s
      · have HS := Lib.hid hs
        rw [hs] at HV
        clear hs
        go_enter Tryz.func68, Tryz.ntmps68
        go_wp2_with (first | (go_at_call 87; refine (cB _ _ _ _ _).mono ?_; rintro e w1 ⟨rfl, hb1⟩; rw [HB.out]; have e1 := (hb1.cell (p := ⟨w.heap.size, 1, none⟩) (cell_block e1)).trans e1; have e2 := (hb1.cell (p := ⟨w.heap.size, 2, none⟩) (cell_block e2)).trans e2; have e3 := (hb1.cell (p := ⟨w.heap.size, 3, none⟩) (cell_block e3)).trans e3; have e4 := (hb1.cell (p := ⟨w.heap.size, 4, none⟩) (cell_block e4)).trans e4) | (go_at_call 88; refine (cM _ _ (by first | exact .inl rfl | exact .inr rfl)).mono ?_; rintro e w' ⟨rfl, rfl⟩; rw [HS.out]))
        go_ret
        exact ⟨by rw [HV.out]; rfl, hb0.trans (hb1.mono hb0.size)⟩
      · have HS := Lib.hid hs
        rw [hs] at HV
        clear hs
        cases ht : mayA x.t
        · have HT := Lib.hid ht
          rw [ht] at HV
          clear ht
          go_enter Tryz.func68, Tryz.ntmps68
          go_wp2_with (first | (go_at_call 87; refine (cB _ _ _ _ _).mono ?_; rintro e w1 ⟨rfl, hb1⟩; rw [HB.out]; have e1 := (hb1.cell (p := ⟨w.heap.size, 1, none⟩) (cell_block e1)).trans e1; have e2 := (hb1.cell (p := ⟨w.heap.size, 2, none⟩) (cell_block e2)).trans e2; have e3 := (hb1.cell (p := ⟨w.heap.size, 3, none⟩) (cell_block e3)).trans e3; have e4 := (hb1.cell (p := ⟨w.heap.size, 4, none⟩) (cell_block e4)).trans e4) | (go_at_call 88; refine (cM _ _ (by first | exact .inl rfl | exact .inr rfl)).mono ?_; rintro e w' ⟨rfl, rfl⟩; first | rw [HS.out] | rw [HT.out]))
          go_ret
          exact ⟨by rw [HV.out]; rfl, hb0.trans (hb1.mono hb0.size)⟩
        · have HT := Lib.hid ht
          rw [ht] at HV
          clear ht
          by_cases h0 : 0 ≤ x.n
          · go_enter Tryz.func68, Tryz.ntmps68
            go_wp2_with (first | (go_at_call 87; refine (cB _ _ _ _ _).mono ?_; rintro e w1 ⟨rfl, hb1⟩; rw [HB.out]; have e1 := (hb1.cell (p := ⟨w.heap.size, 1, none⟩) (cell_block e1)).trans e1; have e2 := (hb1.cell (p := ⟨w.heap.size, 2, none⟩) (cell_block e2)).trans e2; have e3 := (hb1.cell (p := ⟨w.heap.size, 3, none⟩) (cell_block e3)).trans e3; have e4 := (hb1.cell (p := ⟨w.heap.size, 4, none⟩) (cell_block e4)).trans e4) | (go_at_call 88; refine (cM _ _ (by first | exact .inl rfl | exact .inr rfl)).mono ?_; rintro e w' ⟨rfl, rfl⟩; first | rw [HS.out] | rw [HT.out]))
            go_ret
            exact ⟨by rw [HV.out]; rw [decide_eq_true h0]; rfl, hb0.trans (hb1.mono hb0.size)⟩
          · go_enter Tryz.func68, Tryz.ntmps68
            go_wp2_with (first | (go_at_call 87; refine (cB _ _ _ _ _).mono ?_; rintro e w1 ⟨rfl, hb1⟩; rw [HB.out]; have e1 := (hb1.cell (p := ⟨w.heap.size, 1, none⟩) (cell_block e1)).trans e1; have e2 := (hb1.cell (p := ⟨w.heap.size, 2, none⟩) (cell_block e2)).trans e2; have e3 := (hb1.cell (p := ⟨w.heap.size, 3, none⟩) (cell_block e3)).trans e3; have e4 := (hb1.cell (p := ⟨w.heap.size, 4, none⟩) (cell_block e4)).trans e4) | (go_at_call 88; refine (cM _ _ (by first | exact .inl rfl | exact .inr rfl)).mono ?_; rintro e w' ⟨rfl, rfl⟩; first | rw [HS.out] | rw [HT.out]))
            go_ret
            exact ⟨by rw [HV.out]; rw [decide_eq_false (by omega)]; rfl, hb0.trans (hb1.mono hb0.size)⟩
  by_cases h5 : x.k = 5
  · rw [h5] at cB
    cases hb : bareB x false false false true
    · have HV : Hid (oneB x = false) := by unfold Hid oneB; simp [h5, hb]
      have HB := Lib.hid hb
      rw [h5] at e0 hb0 e1 e2 e3 e4 ⊢
      clear hb h0 h1 h2 h4 h3 h5
      go_enter Tryz.func68, Tryz.ntmps68
      go_wp2_with (first | (go_at_call 87; refine (cB _ _ _ _ _).mono ?_; rintro e w1 ⟨rfl, hb1⟩; rw [HB.out]; have e1 := (hb1.cell (p := ⟨w.heap.size, 1, none⟩) (cell_block e1)).trans e1; have e2 := (hb1.cell (p := ⟨w.heap.size, 2, none⟩) (cell_block e2)).trans e2; have e3 := (hb1.cell (p := ⟨w.heap.size, 3, none⟩) (cell_block e3)).trans e3; have e4 := (hb1.cell (p := ⟨w.heap.size, 4, none⟩) (cell_block e4)).trans e4))
      go_ret
      exact ⟨by rw [HV.out]; rfl, hb0.trans (hb1.mono hb0.size)⟩
    · have HV : Hid (oneB x = (true)) := by unfold Hid oneB; simp [h5, hb]
      have HB := Lib.hid hb
      rw [h5] at e0 hb0 e1 e2 e3 e4 ⊢
      clear hb h0 h1 h2 h4 h3 h5
      go_enter Tryz.func68, Tryz.ntmps68
      go_wp2_with (first | (go_at_call 87; refine (cB _ _ _ _ _).mono ?_; rintro e w1 ⟨rfl, hb1⟩; rw [HB.out]; have e1 := (hb1.cell (p := ⟨w.heap.size, 1, none⟩) (cell_block e1)).trans e1; have e2 := (hb1.cell (p := ⟨w.heap.size, 2, none⟩) (cell_block e2)).trans e2; have e3 := (hb1.cell (p := ⟨w.heap.size, 3, none⟩) (cell_block e3)).trans e3; have e4 := (hb1.cell (p := ⟨w.heap.size, 4, none⟩) (cell_block e4)).trans e4))
      go_ret
      exact ⟨by rw [HV.out]; rfl, hb0.trans (hb1.mono hb0.size)⟩
  by_cases h6 : x.k = 6
  · rw [h6] at cB
    cases hb : bareB x false false false false
    · have HV : Hid (oneB x = false) := by unfold Hid oneB; simp [h6, hb]
      have HB := Lib.hid hb
      rw [h6] at e0 hb0 e1 e2 e3 e4 ⊢
      clear hb h0 h1 h2 h4 h3 h5 h6
      go_enter Tryz.func68, Tryz.ntmps68
      go_wp2_with (first | (go_at_call 87; refine (cB _ _ _ _ _).mono ?_; rintro e w1 ⟨rfl, hb1⟩; rw [HB.out]; have e1 := (hb1.cell (p := ⟨w.heap.size, 1, none⟩) (cell_block e1)).trans e1; have e2 := (hb1.cell (p := ⟨w.heap.size, 2, none⟩) (cell_block e2)).trans e2; have e3 := (hb1.cell (p := ⟨w.heap.size, 3, none⟩) (cell_block e3)).trans e3; have e4 := (hb1.cell (p := ⟨w.heap.size, 4, none⟩) (cell_block e4)).trans e4))
      go_ret
      exact ⟨by rw [HV.out]; rfl, hb0.trans (hb1.mono hb0.size)⟩
    · have HV : Hid (oneB x = (true)) := by unfold Hid oneB; simp [h6, hb]
      have HB := Lib.hid hb
      rw [h6] at e0 hb0 e1 e2 e3 e4 ⊢
      clear hb h0 h1 h2 h4 h3 h5 h6
      go_enter Tryz.func68, Tryz.ntmps68
      go_wp2_with (first | (go_at_call 87; refine (cB _ _ _ _ _).mono ?_; rintro e w1 ⟨rfl, hb1⟩; rw [HB.out]; have e1 := (hb1.cell (p := ⟨w.heap.size, 1, none⟩) (cell_block e1)).trans e1; have e2 := (hb1.cell (p := ⟨w.heap.size, 2, none⟩) (cell_block e2)).trans e2; have e3 := (hb1.cell (p := ⟨w.heap.size, 3, none⟩) (cell_block e3)).trans e3; have e4 := (hb1.cell (p := ⟨w.heap.size, 4, none⟩) (cell_block e4)).trans e4))
      go_ret
      exact ⟨by rw [HV.out]; rfl, hb0.trans (hb1.mono hb0.size)⟩
  by_cases h7 : x.k = 7
  · rw [h7] at cB
    cases hb : bareB x false false false true
    · have HV : Hid (oneB x = false) := by unfold Hid oneB; simp [h7, hb]
      have HB := Lib.hid hb
      rw [h7] at e0 hb0 e1 e2 e3 e4 ⊢
      clear hb h0 h1 h2 h4 h3 h5 h6 h7
      go_enter Tryz.func68, Tryz.ntmps68
      go_wp2_with (first | (go_at_call 87; refine (cB _ _ _ _ _).mono ?_; rintro e w1 ⟨rfl, hb1⟩; rw [HB.out]; have e1 := (hb1.cell (p := ⟨w.heap.size, 1, none⟩) (cell_block e1)).trans e1; have e2 := (hb1.cell (p := ⟨w.heap.size, 2, none⟩) (cell_block e2)).trans e2; have e3 := (hb1.cell (p := ⟨w.heap.size, 3, none⟩) (cell_block e3)).trans e3; have e4 := (hb1.cell (p := ⟨w.heap.size, 4, none⟩) (cell_block e4)).trans e4))
      go_ret
      exact ⟨by rw [HV.out]; rfl, hb0.trans (hb1.mono hb0.size)⟩
    · have HV : Hid (oneB x = ((x.l.length : Int) == 2)) := by unfold Hid oneB; simp [h7, hb]
      have HB := Lib.hid hb
      rw [h7] at e0 hb0 e1 e2 e3 e4 ⊢
      clear hb h0 h1 h2 h4 h3 h5 h6 h7
      go_enter Tryz.func68, Tryz.ntmps68
      go_wp2_with (first | (go_at_call 87; refine (cB _ _ _ _ _).mono ?_; rintro e w1 ⟨rfl, hb1⟩; rw [HB.out]; have e1 := (hb1.cell (p := ⟨w.heap.size, 1, none⟩) (cell_block e1)).trans e1; have e2 := (hb1.cell (p := ⟨w.heap.size, 2, none⟩) (cell_block e2)).trans e2; have e3 := (hb1.cell (p := ⟨w.heap.size, 3, none⟩) (cell_block e3)).trans e3; have e4 := (hb1.cell (p := ⟨w.heap.size, 4, none⟩) (cell_block e4)).trans e4))
      go_ret
      exact ⟨by rw [HV.out]; rfl, hb0.trans (hb1.mono hb0.size)⟩
  have HV : Hid (oneB x = false) := by
    unfold Hid oneB; simp [h0, h1, h2, h3, h4, h5, h6, h7]
  have g0 : (x.k == 0) = false := by simpa using h0
  have g1 : (x.k == 1) = false := by simpa using h1
  have g2 : (x.k == 2) = false := by simpa using h2
  have g3 : (x.k == 3) = false := by simpa using h3
  have g4 : (x.k == 4) = false := by simpa using h4
  have g5 : (x.k == 5) = false := by simpa using h5
  have g6 : (x.k == 6) = false := by simpa using h6
  have g7 : (x.k == 7) = false := by simpa using h7
  clear h0 h1 h2 h3 h4 h5 h6 h7
  go_enter Tryz.func68, Tryz.ntmps68
  go_wp2
  go_ret
  exact ⟨by rw [HV.out]; rfl, hb0⟩
end Go.Proofs.YtjnmdbfijdnaiaaGreatDoor
