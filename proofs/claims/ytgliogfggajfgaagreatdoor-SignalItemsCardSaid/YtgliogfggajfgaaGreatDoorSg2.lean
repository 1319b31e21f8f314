/-
  signal.Exited, Down, pleachref22.Exited, Down: the items that tell of an end. Conditions: the reason lies as 'TrV' says, the letters as 'Letters' says.
-/
import Derived.Test.YtgliogfggajfgaaGreatDoorSg1
namespace Go.Proofs.YtgliogfggajfgaaGreatDoor
open Go.RowKit

set_option maxHeartbeats 1600000 in
set_option maxRecDepth 100000 in
theorem exited_any {F : Nat → Prop} {w : World} {x : Tr} {n : Int} {sv : Value} (hL : Letters w) (hx : TrV F w x sv) :
    Calls Tryz.prog 6 #[.int .i64 n, .agg #[.int .i8 x.k, .int .i64 x.n, .string x.s, .string x.t, sv]] w fun e w' => ∃ sv', e = .returned (.agg (cells6 (exS n x) true sv')) ∧ TrV (fun k => F k ∨ w.heap.size ≤ k) w' (exS n x) sv' ∧ Below w.heap.size w w' := by
  obtain ⟨p, c, rfl⟩ := hx.kids.slice
  obtain ⟨n1, n2, hb1, hz1⟩ := two_new w (.cells #[.int .i8 x.k, .int .i64 x.n, .string x.s, .string x.t, .slice p x.l.length c] 25) (.cells (cells6 zeroT false (.slice none 0 0)) 29)
  have HX := Lib.hid ((hx.mono (P' := fun k => F k ∧ k < w.heap.size) fun _ hk h => ⟨hk, h⟩).below hb1)
  have HL := Lib.hid (hL.under hb1)
  have hl0 := hL.lt
  clear hx hL
  obtain ⟨Y, hY⟩ : ∃ Y, limS [aT ⟨#[101, 120, 105, 116, 101, 100]⟩, nT 4 (clN n)] x = Y := ⟨_, rfl⟩
  have hE : exS n x = Y := hY
  rw [hE]
  clear hE
  go_enter Tryz.func6, Tryz.ntmps6
  go_upto_region 1 with fail
  change Code.wp _ _ _ _ ((w.alloc (.cells #[.int .i8 x.k, .int .i64 x.n, .string x.s, .string x.t, .slice p x.l.length c] 25)).alloc (.cells (cells6 zeroT false (.slice none 0 0)) 29))
  generalize ((w.alloc (.cells #[.int .i8 x.k, .int .i64 x.n, .string x.s, .string x.t, .slice p x.l.length c] 25)).alloc (.cells (cells6 zeroT false (.slice none 0 0)) 29)) = w1 at n1 n2 hb1 hz1 HX HL ⊢
  have hb0 : Below w1.heap.size w1 w1.drew := below_drewN (Below.refl _ _) 1
  have hmv : ∀ V : World, Below w1.heap.size w1 V → V.cell? ⟨w.heap.size, 0, none⟩ = some (.int .i8 x.k) ∧ V.cell? ⟨w.heap.size, 1, none⟩ = some (.int .i64 x.n) ∧ V.cell? ⟨w.heap.size, 2, none⟩ = some (.string x.s) ∧ V.cell? ⟨w.heap.size, 3, none⟩ = some (.string x.t) ∧ V.cell? ⟨w.heap.size, 4, none⟩ = some (.slice p x.l.length c) := by
    intro V hv
    have k1 := (hv.block _ (Array.getElem?_eq_some_iff.1 n1).1).trans n1
    exact ⟨(arr_cell k1).trans rfl, (arr_cell k1).trans rfl, (arr_cell k1).trans rfl, (arr_cell k1).trans rfl, (arr_cell k1).trans rfl⟩
  have hS0 := hmv w1 (Below.refl _ _)
  have N2 := Lib.hid n2
  clear n1 n2

  have hmv2 : ∀ V : World, (V.cell? ⟨w.heap.size, 0, none⟩ = some (.int .i8 x.k) ∧ V.cell? ⟨w.heap.size, 1, none⟩ = some (.int .i64 x.n) ∧ V.cell? ⟨w.heap.size, 2, none⟩ = some (.string x.s) ∧ V.cell? ⟨w.heap.size, 3, none⟩ = some (.string x.t) ∧ V.cell? ⟨w.heap.size, 4, none⟩ = some (.slice p x.l.length c)) → ∀ {cs : Array Value}, ((V.setRow (w.heap.size + 1) cs).cell? ⟨w.heap.size, 0, none⟩ = some (.int .i8 x.k) ∧ (V.setRow (w.heap.size + 1) cs).cell? ⟨w.heap.size, 1, none⟩ = some (.int .i64 x.n) ∧ (V.setRow (w.heap.size + 1) cs).cell? ⟨w.heap.size, 2, none⟩ = some (.string x.s) ∧ (V.setRow (w.heap.size + 1) cs).cell? ⟨w.heap.size, 3, none⟩ = some (.string x.t) ∧ (V.setRow (w.heap.size + 1) cs).cell? ⟨w.heap.size, 4, none⟩ = some (.slice p x.l.length c)) := by
    rintro V ⟨h0, h1, h2, h3, h4⟩ cs
    have e := fun o => World.cell?_of_block (a := ⟨w.heap.size, o, none⟩) (setRow_ne (X := V) (cells := cs) (show w.heap.size ≠ w.heap.size + 1 by omega))
    exact ⟨(e 0).trans h0, (e 1).trans h1, (e 2).trans h2, (e 3).trans h3, (e 4).trans h4⟩
  refine wp_region_held_drew (S := fun V => V.cell? ⟨w.heap.size, 0, none⟩ = some (.int .i8 x.k) ∧ V.cell? ⟨w.heap.size, 1, none⟩ = some (.int .i64 x.n) ∧ V.cell? ⟨w.heap.size, 2, none⟩ = some (.string x.s) ∧ V.cell? ⟨w.heap.size, 3, none⟩ = some (.string x.t) ∧ V.cell? ⟨w.heap.size, 4, none⟩ = some (.slice p x.l.length c)) (by kernel_rfl) ?_ (fun hHeld => ?_)
  · (try dsimp only); (first | with_reducible exact hS20 | with_reducible exact hS19 | with_reducible exact hS2 | with_reducible exact hS1 | exact hS9 | exact hS0)
  refine wpAnyH_take (i := 1) (v := ?_) rfl (by kernel_rfl) (by kernel_rfl) (by kernel_rfl) (fun _ _ _ h => h) (Or.inl ⟨by rfl, ?_⟩) (by assumption) ?_
  rotate_left 1
  (intro w hSw; (try dsimp only at hSw); go_simp; try with_reducible rfl)
  (try simp only [List.getElem_toArray, List.getElem_cons_succ, List.getElem_cons_zero, Act.put, List.setIfInBounds_toArray, List.set_cons_zero, List.set_cons_succ])
  refine wpAnyH_take (i := 3) (v := ?_) rfl (by kernel_rfl) (by kernel_rfl) (by kernel_rfl) (fun _ _ _ h => h) (Or.inl ⟨by rfl, ?_⟩) (by assumption) ?_
  rotate_left 1
  (intro w hSw; (try dsimp only at hSw); go_simp; try with_reducible rfl)
  (try simp only [List.getElem_toArray, List.getElem_cons_succ, List.getElem_cons_zero, Act.put, List.setIfInBounds_toArray, List.set_cons_zero, List.set_cons_succ])
  refine wpAnyH_ready (rs := [0]) (by kernel_rfl) (by simp) ?_
  refine AllReadyH.cons rfl (fun K hK => ?_) AllReadyH.nil
  go_simp
  go_wp2_with (first | (go_at_call 25; refine (satom_any _ _).mono ?_; rintro e v1 ⟨rfl, hc1⟩; have hb11 := hb0.trans (hc1.mono hb0.size); have hS1 := hmv _ hb11) | (go_at_call 26; refine (number_any _ _ _).mono ?_; rintro e v2 ⟨rfl, hc2⟩; have hb12 := hb11.trans (hc2.mono hb11.size); have hS2 := hmv _ hb12; have hn9 := heap_new v2 (.cells (row15 (aT ⟨#[101, 120, 105, 116, 101, 100]⟩) (nT 4 (clN n)) x (.slice none 0 0) (.slice none 0 0) (.slice p x.l.length c)) 25); have hb9 := hb12.trans ((alloc_below v2 (.cells (row15 (aT ⟨#[101, 120, 105, 116, 101, 100]⟩) (nT 4 (clN n)) x (.slice none 0 0) (.slice none 0 0) (.slice p x.l.length c)) 25)).mono hb12.size); have hS9 := hmv _ hb9; have cI := item3_any (F := fun k => F k ∧ k < w.heap.size) (HL.out.under hb9) hn9 (aT_lies (by decide)) (nT_lies (by decide)) (HX.out.below hb9) (fun h => by have := hb12.size; have := h.2; omega) (fun k hk => by have := hb9.size; have := hk.2; omega) (by have := hb12.size; omega); rw [hY] at cI) | (go_at_call 24; go_loud (refine cI.mono ?_; rintro e v9 ⟨sv9, rfl, hy9, ht9⟩; obtain ⟨q9, c9, rfl⟩ := hy9.kids.slice; have hb19 := hb9.trans (ht9.below (B := w1.heap.size) hb9.size (fun k hk h => by have := hb12.size; omega)); have hS19 := hmv _ hb19; have hn19 := (hb19.block _ (Array.getElem?_eq_some_iff.1 N2.out).1).trans N2.out; have hb20 := below_setRow (g := w.heap.size + 1) (cells := cells6 (Y) true (.slice q9 (Y).l.length c9)) (hb1.trans (hb19.mono hb1.size)) (by omega); have hr20 := setRow_heap' (cells := cells6 (Y) true (.slice q9 (Y).l.length c9)) hn19; have hS20 := hmv2 _ hS19 (cs := cells6 Y true (.slice q9 Y.l.length c9)); have hy20 := hy9.move (P' := fun k => F k ∨ w.heap.size ≤ k) (w' := v9.setRow (w.heap.size + 1) (cells6 (Y) true (.slice q9 (Y).l.length c9))) (fun k hk _ => setRow_ne (by have h1 := hb12.size; have h2 := hb9.size; omega)) (fun k hk _ => by have h1 := hb12.size; have h2 := hb9.size; rcases hk with hk | hk | hk; exact .inl hk.1; exact .inr (by omega); exact .inr (by omega)))))
  refine hK.out _ _ ?_ (fun hHeld => ?_)
  · (try dsimp only); (first | with_reducible exact hS20 | with_reducible exact hS19 | with_reducible exact hS2 | with_reducible exact hS1 | exact hS9 | exact hS0)
  clear hK K
  (try simp only [List.getElem_toArray, List.getElem_cons_zero, Act.put, List.setIfInBounds_toArray, List.set_cons_zero, List.set_cons_succ])
  refine wpAnyH_ready (rs := [2]) (by kernel_rfl) (by simp) ?_
  refine AllReadyH.cons rfl (fun K hK => ?_) AllReadyH.nil
  go_simp
  go_wp2_with (first | (go_at_call 25; refine (satom_any _ _).mono ?_; rintro e v1 ⟨rfl, hc1⟩; have hb11 := hb0.trans (hc1.mono hb0.size); have hS1 := hmv _ hb11) | (go_at_call 26; refine (number_any _ _ _).mono ?_; rintro e v2 ⟨rfl, hc2⟩; have hb12 := hb11.trans (hc2.mono hb11.size); have hS2 := hmv _ hb12; have hn9 := heap_new v2 (.cells (row15 (aT ⟨#[101, 120, 105, 116, 101, 100]⟩) (nT 4 (clN n)) x (.slice none 0 0) (.slice none 0 0) (.slice p x.l.length c)) 25); have hb9 := hb12.trans ((alloc_below v2 (.cells (row15 (aT ⟨#[101, 120, 105, 116, 101, 100]⟩) (nT 4 (clN n)) x (.slice none 0 0) (.slice none 0 0) (.slice p x.l.length c)) 25)).mono hb12.size); have hS9 := hmv _ hb9; have cI := item3_any (F := fun k => F k ∧ k < w.heap.size) (HL.out.under hb9) hn9 (aT_lies (by decide)) (nT_lies (by decide)) (HX.out.below hb9) (fun h => by have := hb12.size; have := h.2; omega) (fun k hk => by have := hb9.size; have := hk.2; omega) (by have := hb12.size; omega); rw [hY] at cI) | (go_at_call 24; go_loud (refine cI.mono ?_; rintro e v9 ⟨sv9, rfl, hy9, ht9⟩; obtain ⟨q9, c9, rfl⟩ := hy9.kids.slice; have hb19 := hb9.trans (ht9.below (B := w1.heap.size) hb9.size (fun k hk h => by have := hb12.size; omega)); have hS19 := hmv _ hb19; have hn19 := (hb19.block _ (Array.getElem?_eq_some_iff.1 N2.out).1).trans N2.out; have hb20 := below_setRow (g := w.heap.size + 1) (cells := cells6 (Y) true (.slice q9 (Y).l.length c9)) (hb1.trans (hb19.mono hb1.size)) (by omega); have hr20 := setRow_heap' (cells := cells6 (Y) true (.slice q9 (Y).l.length c9)) hn19; have hS20 := hmv2 _ hS19 (cs := cells6 Y true (.slice q9 Y.l.length c9)); have hy20 := hy9.move (P' := fun k => F k ∨ w.heap.size ≤ k) (w' := v9.setRow (w.heap.size + 1) (cells6 (Y) true (.slice q9 (Y).l.length c9))) (fun k hk _ => setRow_ne (by have h1 := hb12.size; have h2 := hb9.size; omega)) (fun k hk _ => by have h1 := hb12.size; have h2 := hb9.size; rcases hk with hk | hk | hk; exact .inl hk.1; exact .inr (by omega); exact .inr (by omega)))))
  refine hK.out _ _ ?_ (fun hHeld => ?_)
  · (try dsimp only); (first | with_reducible exact hS20 | with_reducible exact hS19 | with_reducible exact hS2 | with_reducible exact hS1 | exact hS9 | exact hS0)
  clear hK K
  (try simp only [List.getElem_toArray, List.getElem_cons_succ, List.getElem_cons_zero, Act.put, List.setIfInBounds_toArray, List.set_cons_zero, List.set_cons_succ])
  refine wpAnyH_ready (rs := [4]) (by kernel_rfl) (by simp) ?_
  refine AllReadyH.cons rfl (fun K hK => ?_) AllReadyH.nil
  go_simp
  refine hK.out _ _ ?_ (fun hHeld => ?_)
  · (try dsimp only); (first | with_reducible exact hS20 | with_reducible exact hS19 | with_reducible exact hS2 | with_reducible exact hS1 | exact hS9 | exact hS0)
  clear hK K
  (try simp only [List.getElem_toArray, List.getElem_cons_succ, List.getElem_cons_zero, Act.put, List.setIfInBounds_toArray, List.set_cons_zero, List.set_cons_succ])
  refine wpAnyH_ready (rs := [5]) (by kernel_rfl) (by simp) ?_
  refine AllReadyH.cons rfl (fun K hK => ?_) AllReadyH.nil
  go_simp
  go_wp2_with (first | (go_at_call 25; refine (satom_any _ _).mono ?_; rintro e v1 ⟨rfl, hc1⟩; have hb11 := hb0.trans (hc1.mono hb0.size); have hS1 := hmv _ hb11) | (go_at_call 26; refine (number_any _ _ _).mono ?_; rintro e v2 ⟨rfl, hc2⟩; have hb12 := hb11.trans (hc2.mono hb11.size); have hS2 := hmv _ hb12; have hn9 := heap_new v2 (.cells (row15 (aT ⟨#[101, 120, 105, 116, 101, 100]⟩) (nT 4 (clN n)) x (.slice none 0 0) (.slice none 0 0) (.slice p x.l.length c)) 25); have hb9 := hb12.trans ((alloc_below v2 (.cells (row15 (aT ⟨#[101, 120, 105, 116, 101, 100]⟩) (nT 4 (clN n)) x (.slice none 0 0) (.slice none 0 0) (.slice p x.l.length c)) 25)).mono hb12.size); have hS9 := hmv _ hb9; have cI := item3_any (F := fun k => F k ∧ k < w.heap.size) (HL.out.under hb9) hn9 (aT_lies (by decide)) (nT_lies (by decide)) (HX.out.below hb9) (fun h => by have := hb12.size; have := h.2; omega) (fun k hk => by have := hb9.size; have := hk.2; omega) (by have := hb12.size; omega); rw [hY] at cI) | (go_at_call 24; go_loud (refine cI.mono ?_; rintro e v9 ⟨sv9, rfl, hy9, ht9⟩; obtain ⟨q9, c9, rfl⟩ := hy9.kids.slice; have hb19 := hb9.trans (ht9.below (B := w1.heap.size) hb9.size (fun k hk h => by have := hb12.size; omega)); have hS19 := hmv _ hb19; have hn19 := (hb19.block _ (Array.getElem?_eq_some_iff.1 N2.out).1).trans N2.out; have hb20 := below_setRow (g := w.heap.size + 1) (cells := cells6 (Y) true (.slice q9 (Y).l.length c9)) (hb1.trans (hb19.mono hb1.size)) (by omega); have hr20 := setRow_heap' (cells := cells6 (Y) true (.slice q9 (Y).l.length c9)) hn19; have hS20 := hmv2 _ hS19 (cs := cells6 Y true (.slice q9 Y.l.length c9)); have hy20 := hy9.move (P' := fun k => F k ∨ w.heap.size ≤ k) (w' := v9.setRow (w.heap.size + 1) (cells6 (Y) true (.slice q9 (Y).l.length c9))) (fun k hk _ => setRow_ne (by have h1 := hb12.size; have h2 := hb9.size; omega)) (fun k hk _ => by have h1 := hb12.size; have h2 := hb9.size; rcases hk with hk | hk | hk; exact .inl hk.1; exact .inr (by omega); exact .inr (by omega)))))
  refine hK.out _ _ ?_ (fun hHeld => ?_)
  · (try dsimp only); (first | with_reducible exact hS20 | with_reducible exact hS19 | with_reducible exact hS2 | with_reducible exact hS1 | exact hS9 | exact hS0)
  clear hK K
  (try simp only [List.getElem_toArray, List.getElem_cons_succ, List.getElem_cons_zero, Act.put, List.setIfInBounds_toArray, List.set_cons_zero, List.set_cons_succ])
  refine wpAnyH_ready (rs := [6]) (by kernel_rfl) (by simp) ?_
  refine AllReadyH.cons rfl (fun K hK => ?_) AllReadyH.nil
  (refine step_store_row rfl 29 _ _ rfl (w.heap.size + 1) (cells6 (Y) true (.slice q9 (Y).l.length c9)) (by kernel_rfl) (by kernel_rfl) 29 (cells6 zeroT false (.slice none 0 0)) hn19 (size69 _ _ _) (by kernel_rfl) (by kernel_rfl) ?_)
  refine hK.out _ _ ?_ (fun hHeld => ?_)
  · (try dsimp only); (first | with_reducible exact hS20 | with_reducible exact hS19 | with_reducible exact hS2 | with_reducible exact hS1 | exact hS9 | exact hS0)
  clear hK K
  (try simp only [List.getElem_toArray, List.getElem_cons_succ, List.getElem_cons_zero, Act.put])
  refine wpAnyH_done (by kernel_rfl) ?_ _
  go_wp2_with fail
  exact bodyPost_ret (v := .agg (cells6 (Y) true (.slice q9 (Y).l.length c9))) (results_cell_row Tryz.results6 _ _ (w.heap.size + 1) 29 (cells6 (Y) true (.slice q9 (Y).l.length c9)) (0, 0) _ rfl hr20 Tryz.underlying29 rfl (size69 _ _ _)) rfl ⟨_, rfl, hy20, hb20⟩
set_option maxHeartbeats 1600000 in
set_option maxRecDepth 100000 in
theorem down_any {F : Nat → Prop} {w : World} {x : Tr} {m n : Int} {sv : Value} (hL : Letters w) (hx : TrV F w x sv) :
    Calls Tryz.prog 8 #[.int .i64 m, .int .i64 n, .agg #[.int .i8 x.k, .int .i64 x.n, .string x.s, .string x.t, sv]] w fun e w' => ∃ sv', e = .returned (.agg (cells6 (dnS m n x) true sv')) ∧ TrV (fun k => F k ∨ w.heap.size ≤ k) w' (dnS m n x) sv' ∧ Below w.heap.size w w' := by
  obtain ⟨p, c, rfl⟩ := hx.kids.slice
  obtain ⟨n1, n2, hb1, hz1⟩ := two_new w (.cells #[.int .i8 x.k, .int .i64 x.n, .string x.s, .string x.t, .slice p x.l.length c] 25) (.cells (cells6 zeroT false (.slice none 0 0)) 29)
  have HX := Lib.hid ((hx.mono (P' := fun k => F k ∧ k < w.heap.size) fun _ hk h => ⟨hk, h⟩).below hb1)
  have HL := Lib.hid (hL.under hb1)
  have hl0 := hL.lt
  clear hx hL
  obtain ⟨Y, hY⟩ : ∃ Y, limS [aT ⟨#[100, 111, 119, 110]⟩, nT 2 (clN m), nT 4 (clN n)] x = Y := ⟨_, rfl⟩
  have hE : dnS m n x = Y := hY
  rw [hE]
  clear hE
  go_enter Tryz.func8, Tryz.ntmps8
  go_upto_region 1 with fail
  change Code.wp _ _ _ _ ((w.alloc (.cells #[.int .i8 x.k, .int .i64 x.n, .string x.s, .string x.t, .slice p x.l.length c] 25)).alloc (.cells (cells6 zeroT false (.slice none 0 0)) 29))
  generalize ((w.alloc (.cells #[.int .i8 x.k, .int .i64 x.n, .string x.s, .string x.t, .slice p x.l.length c] 25)).alloc (.cells (cells6 zeroT false (.slice none 0 0)) 29)) = w1 at n1 n2 hb1 hz1 HX HL ⊢
  have hb0 : Below w1.heap.size w1 w1.drew := below_drewN (Below.refl _ _) 1
  have hmv : ∀ V : World, Below w1.heap.size w1 V → V.cell? ⟨w.heap.size, 0, none⟩ = some (.int .i8 x.k) ∧ V.cell? ⟨w.heap.size, 1, none⟩ = some (.int .i64 x.n) ∧ V.cell? ⟨w.heap.size, 2, none⟩ = some (.string x.s) ∧ V.cell? ⟨w.heap.size, 3, none⟩ = some (.string x.t) ∧ V.cell? ⟨w.heap.size, 4, none⟩ = some (.slice p x.l.length c) := by
    intro V hv
    have k1 := (hv.block _ (Array.getElem?_eq_some_iff.1 n1).1).trans n1
    exact ⟨(arr_cell k1).trans rfl, (arr_cell k1).trans rfl, (arr_cell k1).trans rfl, (arr_cell k1).trans rfl, (arr_cell k1).trans rfl⟩
  have hS0 := hmv w1 (Below.refl _ _)
  have N2 := Lib.hid n2
  clear n1 n2

  have tok1 : True := trivial
  have hmv2 : ∀ V : World, (V.cell? ⟨w.heap.size, 0, none⟩ = some (.int .i8 x.k) ∧ V.cell? ⟨w.heap.size, 1, none⟩ = some (.int .i64 x.n) ∧ V.cell? ⟨w.heap.size, 2, none⟩ = some (.string x.s) ∧ V.cell? ⟨w.heap.size, 3, none⟩ = some (.string x.t) ∧ V.cell? ⟨w.heap.size, 4, none⟩ = some (.slice p x.l.length c)) → ∀ {cs : Array Value}, ((V.setRow (w.heap.size + 1) cs).cell? ⟨w.heap.size, 0, none⟩ = some (.int .i8 x.k) ∧ (V.setRow (w.heap.size + 1) cs).cell? ⟨w.heap.size, 1, none⟩ = some (.int .i64 x.n) ∧ (V.setRow (w.heap.size + 1) cs).cell? ⟨w.heap.size, 2, none⟩ = some (.string x.s) ∧ (V.setRow (w.heap.size + 1) cs).cell? ⟨w.heap.size, 3, none⟩ = some (.string x.t) ∧ (V.setRow (w.heap.size + 1) cs).cell? ⟨w.heap.size, 4, none⟩ = some (.slice p x.l.length c)) := by
    rintro V ⟨h0, h1, h2, h3, h4⟩ cs
    have e := fun o => World.cell?_of_block (a := ⟨w.heap.size, o, none⟩) (setRow_ne (X := V) (cells := cs) (show w.heap.size ≠ w.heap.size + 1 by omega))
    exact ⟨(e 0).trans h0, (e 1).trans h1, (e 2).trans h2, (e 3).trans h3, (e 4).trans h4⟩
  refine wp_region_held_drew (S := fun V => V.cell? ⟨w.heap.size, 0, none⟩ = some (.int .i8 x.k) ∧ V.cell? ⟨w.heap.size, 1, none⟩ = some (.int .i64 x.n) ∧ V.cell? ⟨w.heap.size, 2, none⟩ = some (.string x.s) ∧ V.cell? ⟨w.heap.size, 3, none⟩ = some (.string x.t) ∧ V.cell? ⟨w.heap.size, 4, none⟩ = some (.slice p x.l.length c)) (by kernel_rfl) ?_ (fun hHeld => ?_)
  · (try dsimp only); (first | with_reducible exact hS20 | with_reducible exact hS19 | with_reducible exact hS3 | with_reducible exact hS2 | with_reducible exact hS1 | exact hS9 | exact hS0)
  refine wpAnyH_take (i := 1) (v := ?_) rfl (by kernel_rfl) (by kernel_rfl) (by kernel_rfl) (fun _ _ _ h => h) (Or.inl ⟨by rfl, ?_⟩) (by assumption) ?_
  rotate_left 1
  (intro w hSw; (try dsimp only at hSw); go_simp; try with_reducible rfl)
  (try simp only [List.getElem_toArray, List.getElem_cons_succ, List.getElem_cons_zero, Act.put, List.setIfInBounds_toArray, List.set_cons_zero, List.set_cons_succ])
  refine wpAnyH_take (i := 3) (v := ?_) rfl (by kernel_rfl) (by kernel_rfl) (by kernel_rfl) (fun _ _ _ h => h) (Or.inl ⟨by rfl, ?_⟩) (by assumption) ?_
  rotate_left 1
  (intro w hSw; (try dsimp only at hSw); go_simp; try with_reducible rfl)
  (try simp only [List.getElem_toArray, List.getElem_cons_succ, List.getElem_cons_zero, Act.put, List.setIfInBounds_toArray, List.set_cons_zero, List.set_cons_succ])
  refine wpAnyH_take (i := 5) (v := ?_) rfl (by kernel_rfl) (by kernel_rfl) (by kernel_rfl) (fun _ _ _ h => h) (Or.inl ⟨by rfl, ?_⟩) (by assumption) ?_
  rotate_left 1
  (intro w hSw; (try dsimp only at hSw); go_simp; try with_reducible rfl)
  (try simp only [List.getElem_toArray, List.getElem_cons_succ, List.getElem_cons_zero, Act.put, List.setIfInBounds_toArray, List.set_cons_zero, List.set_cons_succ])
  refine wpAnyH_ready (rs := [0]) (by kernel_rfl) (by simp) ?_
  refine AllReadyH.cons rfl (fun K hK => ?_) AllReadyH.nil
  go_simp
  go_wp2_with (first | (go_at_call 25; refine (satom_any _ _).mono ?_; rintro e v1 ⟨rfl, hc1⟩; have hb11 := hb0.trans (hc1.mono hb0.size); have hS1 := hmv _ hb11) | (go_at_call 26; have _t := tok1; clear tok1; refine (number_any _ _ _).mono ?_; rintro e v2 ⟨rfl, hc2⟩; have hb12 := hb11.trans (hc2.mono hb11.size); have hS2 := hmv _ hb12) | (go_at_call 26; refine (number_any _ _ _).mono ?_; rintro e v3 ⟨rfl, hc3⟩; have hb13 := hb12.trans (hc3.mono hb12.size); have hS3 := hmv _ hb13; have hn9 := heap_new v3 (.cells (row20 (aT ⟨#[100, 111, 119, 110]⟩) (nT 2 (clN m)) (nT 4 (clN n)) x (.slice none 0 0) (.slice none 0 0) (.slice none 0 0) (.slice p x.l.length c)) 25); have hb9 := hb13.trans ((alloc_below v3 (.cells (row20 (aT ⟨#[100, 111, 119, 110]⟩) (nT 2 (clN m)) (nT 4 (clN n)) x (.slice none 0 0) (.slice none 0 0) (.slice none 0 0) (.slice p x.l.length c)) 25)).mono hb13.size); have hS9 := hmv _ hb9; have cI := item4_any (F := fun k => F k ∧ k < w.heap.size) (HL.out.under hb9) hn9 (aT_lies (by decide)) (nT_lies (by decide)) (nT_lies (by decide)) (HX.out.below hb9) (fun h => by have := hb13.size; have := h.2; omega) (fun k hk => by have := hb9.size; have := hk.2; omega) (by have := hb13.size; omega); rw [hY] at cI) | (go_at_call 24; go_loud (refine cI.mono ?_; rintro e v9 ⟨sv9, rfl, hy9, ht9⟩; obtain ⟨q9, c9, rfl⟩ := hy9.kids.slice; have hb19 := hb9.trans (ht9.below (B := w1.heap.size) hb9.size (fun k hk h => by have := hb13.size; omega)); have hS19 := hmv _ hb19; have hn19 := (hb19.block _ (Array.getElem?_eq_some_iff.1 N2.out).1).trans N2.out; have hb20 := below_setRow (g := w.heap.size + 1) (cells := cells6 (Y) true (.slice q9 (Y).l.length c9)) (hb1.trans (hb19.mono hb1.size)) (by omega); have hr20 := setRow_heap' (cells := cells6 (Y) true (.slice q9 (Y).l.length c9)) hn19; have hS20 := hmv2 _ hS19 (cs := cells6 Y true (.slice q9 Y.l.length c9)); have hy20 := hy9.move (P' := fun k => F k ∨ w.heap.size ≤ k) (w' := v9.setRow (w.heap.size + 1) (cells6 (Y) true (.slice q9 (Y).l.length c9))) (fun k hk _ => setRow_ne (by have h1 := hb13.size; have h2 := hb9.size; omega)) (fun k hk _ => by have h1 := hb13.size; have h2 := hb9.size; rcases hk with hk | hk | hk; exact .inl hk.1; exact .inr (by omega); exact .inr (by omega)))))
  refine hK.out _ _ ?_ (fun hHeld => ?_)
  · (try dsimp only); (first | with_reducible exact hS20 | with_reducible exact hS19 | with_reducible exact hS3 | with_reducible exact hS2 | with_reducible exact hS1 | exact hS9 | exact hS0)
  clear hK K
  (try simp only [List.getElem_toArray, List.getElem_cons_zero, Act.put, List.setIfInBounds_toArray, List.set_cons_zero, List.set_cons_succ])
  refine wpAnyH_ready (rs := [2]) (by kernel_rfl) (by simp) ?_
  refine AllReadyH.cons rfl (fun K hK => ?_) AllReadyH.nil
  go_simp
  go_wp2_with (first | (go_at_call 25; refine (satom_any _ _).mono ?_; rintro e v1 ⟨rfl, hc1⟩; have hb11 := hb0.trans (hc1.mono hb0.size); have hS1 := hmv _ hb11) | (go_at_call 26; have _t := tok1; clear tok1; refine (number_any _ _ _).mono ?_; rintro e v2 ⟨rfl, hc2⟩; have hb12 := hb11.trans (hc2.mono hb11.size); have hS2 := hmv _ hb12) | (go_at_call 26; refine (number_any _ _ _).mono ?_; rintro e v3 ⟨rfl, hc3⟩; have hb13 := hb12.trans (hc3.mono hb12.size); have hS3 := hmv _ hb13; have hn9 := heap_new v3 (.cells (row20 (aT ⟨#[100, 111, 119, 110]⟩) (nT 2 (clN m)) (nT 4 (clN n)) x (.slice none 0 0) (.slice none 0 0) (.slice none 0 0) (.slice p x.l.length c)) 25); have hb9 := hb13.trans ((alloc_below v3 (.cells (row20 (aT ⟨#[100, 111, 119, 110]⟩) (nT 2 (clN m)) (nT 4 (clN n)) x (.slice none 0 0) (.slice none 0 0) (.slice none 0 0) (.slice p x.l.length c)) 25)).mono hb13.size); have hS9 := hmv _ hb9; have cI := item4_any (F := fun k => F k ∧ k < w.heap.size) (HL.out.under hb9) hn9 (aT_lies (by decide)) (nT_lies (by decide)) (nT_lies (by decide)) (HX.out.below hb9) (fun h => by have := hb13.size; have := h.2; omega) (fun k hk => by have := hb9.size; have := hk.2; omega) (by have := hb13.size; omega); rw [hY] at cI) | (go_at_call 24; go_loud (refine cI.mono ?_; rintro e v9 ⟨sv9, rfl, hy9, ht9⟩; obtain ⟨q9, c9, rfl⟩ := hy9.kids.slice; have hb19 := hb9.trans (ht9.below (B := w1.heap.size) hb9.size (fun k hk h => by have := hb13.size; omega)); have hS19 := hmv _ hb19; have hn19 := (hb19.block _ (Array.getElem?_eq_some_iff.1 N2.out).1).trans N2.out; have hb20 := below_setRow (g := w.heap.size + 1) (cells := cells6 (Y) true (.slice q9 (Y).l.length c9)) (hb1.trans (hb19.mono hb1.size)) (by omega); have hr20 := setRow_heap' (cells := cells6 (Y) true (.slice q9 (Y).l.length c9)) hn19; have hS20 := hmv2 _ hS19 (cs := cells6 Y true (.slice q9 Y.l.length c9)); have hy20 := hy9.move (P' := fun k => F k ∨ w.heap.size ≤ k) (w' := v9.setRow (w.heap.size + 1) (cells6 (Y) true (.slice q9 (Y).l.length c9))) (fun k hk _ => setRow_ne (by have h1 := hb13.size; have h2 := hb9.size; omega)) (fun k hk _ => by have h1 := hb13.size; have h2 := hb9.size; rcases hk with hk | hk | hk; exact .inl hk.1; exact .inr (by omega); exact .inr (by omega)))))
  refine hK.out _ _ ?_ (fun hHeld => ?_)
  · (try dsimp only); (first | with_reducible exact hS20 | with_reducible exact hS19 | with_reducible exact hS3 | with_reducible exact hS2 | with_reducible exact hS1 | exact hS9 | exact hS0)
  clear hK K
  (try simp only [List.getElem_toArray, List.getElem_cons_succ, List.getElem_cons_zero, Act.put, List.setIfInBounds_toArray, List.set_cons_zero, List.set_cons_succ])
  refine wpAnyH_ready (rs := [4]) (by kernel_rfl) (by simp) ?_
  refine AllReadyH.cons rfl (fun K hK => ?_) AllReadyH.nil
  go_simp
  go_wp2_with (first | (go_at_call 25; refine (satom_any _ _).mono ?_; rintro e v1 ⟨rfl, hc1⟩; have hb11 := hb0.trans (hc1.mono hb0.size); have hS1 := hmv _ hb11) | (go_at_call 26; have _t := tok1; clear tok1; refine (number_any _ _ _).mono ?_; rintro e v2 ⟨rfl, hc2⟩; have hb12 := hb11.trans (hc2.mono hb11.size); have hS2 := hmv _ hb12) | (go_at_call 26; refine (number_any _ _ _).mono ?_; rintro e v3 ⟨rfl, hc3⟩; have hb13 := hb12.trans (hc3.mono hb12.size); have hS3 := hmv _ hb13; have hn9 := heap_new v3 (.cells (row20 (aT ⟨#[100, 111, 119, 110]⟩) (nT 2 (clN m)) (nT 4 (clN n)) x (.slice none 0 0) (.slice none 0 0) (.slice none 0 0) (.slice p x.l.length c)) 25); have hb9 := hb13.trans ((alloc_below v3 (.cells (row20 (aT ⟨#[100, 111, 119, 110]⟩) (nT 2 (clN m)) (nT 4 (clN n)) x (.slice none 0 0) (.slice none 0 0) (.slice none 0 0) (.slice p x.l.length c)) 25)).mono hb13.size); have hS9 := hmv _ hb9; have cI := item4_any (F := fun k => F k ∧ k < w.heap.size) (HL.out.under hb9) hn9 (aT_lies (by decide)) (nT_lies (by decide)) (nT_lies (by decide)) (HX.out.below hb9) (fun h => by have := hb13.size; have := h.2; omega) (fun k hk => by have := hb9.size; have := hk.2; omega) (by have := hb13.size; omega); rw [hY] at cI) | (go_at_call 24; go_loud (refine cI.mono ?_; rintro e v9 ⟨sv9, rfl, hy9, ht9⟩; obtain ⟨q9, c9, rfl⟩ := hy9.kids.slice; have hb19 := hb9.trans (ht9.below (B := w1.heap.size) hb9.size (fun k hk h => by have := hb13.size; omega)); have hS19 := hmv _ hb19; have hn19 := (hb19.block _ (Array.getElem?_eq_some_iff.1 N2.out).1).trans N2.out; have hb20 := below_setRow (g := w.heap.size + 1) (cells := cells6 (Y) true (.slice q9 (Y).l.length c9)) (hb1.trans (hb19.mono hb1.size)) (by omega); have hr20 := setRow_heap' (cells := cells6 (Y) true (.slice q9 (Y).l.length c9)) hn19; have hS20 := hmv2 _ hS19 (cs := cells6 Y true (.slice q9 Y.l.length c9)); have hy20 := hy9.move (P' := fun k => F k ∨ w.heap.size ≤ k) (w' := v9.setRow (w.heap.size + 1) (cells6 (Y) true (.slice q9 (Y).l.length c9))) (fun k hk _ => setRow_ne (by have h1 := hb13.size; have h2 := hb9.size; omega)) (fun k hk _ => by have h1 := hb13.size; have h2 := hb9.size; rcases hk with hk | hk | hk; exact .inl hk.1; exact .inr (by omega); exact .inr (by omega)))))
  refine hK.out _ _ ?_ (fun hHeld => ?_)
  · (try dsimp only); (first | with_reducible exact hS20 | with_reducible exact hS19 | with_reducible exact hS3 | with_reducible exact hS2 | with_reducible exact hS1 | exact hS9 | exact hS0)
  clear hK K
  (try simp only [List.getElem_toArray, List.getElem_cons_succ, List.getElem_cons_zero, Act.put, List.setIfInBounds_toArray, List.set_cons_zero, List.set_cons_succ])
  refine wpAnyH_ready (rs := [6]) (by kernel_rfl) (by simp) ?_
  refine AllReadyH.cons rfl (fun K hK => ?_) AllReadyH.nil
  go_simp
  refine hK.out _ _ ?_ (fun hHeld => ?_)
  · (try dsimp only); (first | with_reducible exact hS20 | with_reducible exact hS19 | with_reducible exact hS3 | with_reducible exact hS2 | with_reducible exact hS1 | exact hS9 | exact hS0)
  clear hK K
  (try simp only [List.getElem_toArray, List.getElem_cons_succ, List.getElem_cons_zero, Act.put, List.setIfInBounds_toArray, List.set_cons_zero, List.set_cons_succ])
  refine wpAnyH_ready (rs := [7]) (by kernel_rfl) (by simp) ?_
  refine AllReadyH.cons rfl (fun K hK => ?_) AllReadyH.nil
  go_simp
  go_wp2_with (first | (go_at_call 25; refine (satom_any _ _).mono ?_; rintro e v1 ⟨rfl, hc1⟩; have hb11 := hb0.trans (hc1.mono hb0.size); have hS1 := hmv _ hb11) | (go_at_call 26; have _t := tok1; clear tok1; refine (number_any _ _ _).mono ?_; rintro e v2 ⟨rfl, hc2⟩; have hb12 := hb11.trans (hc2.mono hb11.size); have hS2 := hmv _ hb12) | (go_at_call 26; refine (number_any _ _ _).mono ?_; rintro e v3 ⟨rfl, hc3⟩; have hb13 := hb12.trans (hc3.mono hb12.size); have hS3 := hmv _ hb13; have hn9 := heap_new v3 (.cells (row20 (aT ⟨#[100, 111, 119, 110]⟩) (nT 2 (clN m)) (nT 4 (clN n)) x (.slice none 0 0) (.slice none 0 0) (.slice none 0 0) (.slice p x.l.length c)) 25); have hb9 := hb13.trans ((alloc_below v3 (.cells (row20 (aT ⟨#[100, 111, 119, 110]⟩) (nT 2 (clN m)) (nT 4 (clN n)) x (.slice none 0 0) (.slice none 0 0) (.slice none 0 0) (.slice p x.l.length c)) 25)).mono hb13.size); have hS9 := hmv _ hb9; have cI := item4_any (F := fun k => F k ∧ k < w.heap.size) (HL.out.under hb9) hn9 (aT_lies (by decide)) (nT_lies (by decide)) (nT_lies (by decide)) (HX.out.below hb9) (fun h => by have := hb13.size; have := h.2; omega) (fun k hk => by have := hb9.size; have := hk.2; omega) (by have := hb13.size; omega); rw [hY] at cI) | (go_at_call 24; go_loud (refine cI.mono ?_; rintro e v9 ⟨sv9, rfl, hy9, ht9⟩; obtain ⟨q9, c9, rfl⟩ := hy9.kids.slice; have hb19 := hb9.trans (ht9.below (B := w1.heap.size) hb9.size (fun k hk h => by have := hb13.size; omega)); have hS19 := hmv _ hb19; have hn19 := (hb19.block _ (Array.getElem?_eq_some_iff.1 N2.out).1).trans N2.out; have hb20 := below_setRow (g := w.heap.size + 1) (cells := cells6 (Y) true (.slice q9 (Y).l.length c9)) (hb1.trans (hb19.mono hb1.size)) (by omega); have hr20 := setRow_heap' (cells := cells6 (Y) true (.slice q9 (Y).l.length c9)) hn19; have hS20 := hmv2 _ hS19 (cs := cells6 Y true (.slice q9 Y.l.length c9)); have hy20 := hy9.move (P' := fun k => F k ∨ w.heap.size ≤ k) (w' := v9.setRow (w.heap.size + 1) (cells6 (Y) true (.slice q9 (Y).l.length c9))) (fun k hk _ => setRow_ne (by have h1 := hb13.size; have h2 := hb9.size; omega)) (fun k hk _ => by have h1 := hb13.size; have h2 := hb9.size; rcases hk with hk | hk | hk; exact .inl hk.1; exact .inr (by omega); exact .inr (by omega)))))
  refine hK.out _ _ ?_ (fun hHeld => ?_)
  · (try dsimp only); (first | with_reducible exact hS20 | with_reducible exact hS19 | with_reducible exact hS3 | with_reducible exact hS2 | with_reducible exact hS1 | exact hS9 | exact hS0)
  clear hK K
  (try simp only [List.getElem_toArray, List.getElem_cons_succ, List.getElem_cons_zero, Act.put, List.setIfInBounds_toArray, List.set_cons_zero, List.set_cons_succ])
  refine wpAnyH_ready (rs := [8]) (by kernel_rfl) (by simp) ?_
  refine AllReadyH.cons rfl (fun K hK => ?_) AllReadyH.nil
  (refine step_store_row rfl 29 _ _ rfl (w.heap.size + 1) (cells6 (Y) true (.slice q9 (Y).l.length c9)) (by kernel_rfl) (by kernel_rfl) 29 (cells6 zeroT false (.slice none 0 0)) hn19 (size69 _ _ _) (by kernel_rfl) (by kernel_rfl) ?_)
  refine hK.out _ _ ?_ (fun hHeld => ?_)
  · (try dsimp only); (first | with_reducible exact hS20 | with_reducible exact hS19 | with_reducible exact hS3 | with_reducible exact hS2 | with_reducible exact hS1 | exact hS9 | exact hS0)
  clear hK K
  (try simp only [List.getElem_toArray, List.getElem_cons_succ, List.getElem_cons_zero, Act.put])
  refine wpAnyH_done (by kernel_rfl) ?_ _
  go_wp2_with fail
  exact bodyPost_ret (v := .agg (cells6 (Y) true (.slice q9 (Y).l.length c9))) (results_cell_row Tryz.results8 _ _ (w.heap.size + 1) 29 (cells6 (Y) true (.slice q9 (Y).l.length c9)) (0, 0) _ rfl hr20 Tryz.underlying29 rfl (size69 _ _ _)) rfl ⟨_, rfl, hy20, hb20⟩
set_option maxHeartbeats 1600000 in
set_option maxRecDepth 100000 in
theorem rexited_any {F : Nat → Prop} {w : World} {x : Tr} {n : Int} {sv : Value} (hL : Letters w) (hx : TrV F w x sv) :
    Calls Tryz.prog 7 #[.int .i64 n, .agg #[.int .i8 x.k, .int .i64 x.n, .string x.s, .string x.t, sv]] w fun e w' => ∃ sv', e = .returned (.agg (cells6 (exS n x) true sv')) ∧ TrV (fun k => F k ∨ w.heap.size ≤ k) w' (exS n x) sv' ∧ Below w.heap.size w w' := by
  obtain ⟨p, c, rfl⟩ := hx.kids.slice
  obtain ⟨n1, n2, hb1, hz1⟩ := two_new w (.cells #[.int .i8 x.k, .int .i64 x.n, .string x.s, .string x.t, .slice p x.l.length c] 25) (.cells (cells6 zeroT false (.slice none 0 0)) 29)
  have HX := Lib.hid ((hx.mono (P' := fun k => F k ∧ k < w.heap.size) fun _ hk h => ⟨hk, h⟩).below hb1)
  have HL := Lib.hid (hL.under hb1)
  have hl0 := hL.lt
  clear hx hL
  obtain ⟨Y, hY⟩ : ∃ Y, limS [aT ⟨#[101, 120, 105, 116, 101, 100]⟩, nT 4 (clN n)] x = Y := ⟨_, rfl⟩
  have hE : exS n x = Y := hY
  rw [hE]
  clear hE
  go_enter Tryz.func7, Tryz.ntmps7
  go_upto_region 1 with fail
  change Code.wp _ _ _ _ ((w.alloc (.cells #[.int .i8 x.k, .int .i64 x.n, .string x.s, .string x.t, .slice p x.l.length c] 25)).alloc (.cells (cells6 zeroT false (.slice none 0 0)) 29))
  generalize ((w.alloc (.cells #[.int .i8 x.k, .int .i64 x.n, .string x.s, .string x.t, .slice p x.l.length c] 25)).alloc (.cells (cells6 zeroT false (.slice none 0 0)) 29)) = w1 at n1 n2 hb1 hz1 HX HL ⊢
  have hb0 : Below w1.heap.size w1 w1.drew := below_drewN (Below.refl _ _) 1
  have hmv : ∀ V : World, Below w1.heap.size w1 V → V.cell? ⟨w.heap.size, 0, none⟩ = some (.int .i8 x.k) ∧ V.cell? ⟨w.heap.size, 1, none⟩ = some (.int .i64 x.n) ∧ V.cell? ⟨w.heap.size, 2, none⟩ = some (.string x.s) ∧ V.cell? ⟨w.heap.size, 3, none⟩ = some (.string x.t) ∧ V.cell? ⟨w.heap.size, 4, none⟩ = some (.slice p x.l.length c) := by
    intro V hv
    have k1 := (hv.block _ (Array.getElem?_eq_some_iff.1 n1).1).trans n1
    exact ⟨(arr_cell k1).trans rfl, (arr_cell k1).trans rfl, (arr_cell k1).trans rfl, (arr_cell k1).trans rfl, (arr_cell k1).trans rfl⟩
  have hS0 := hmv w1 (Below.refl _ _)
  have N2 := Lib.hid n2
  clear n1 n2

  have hmv2 : ∀ V : World, (V.cell? ⟨w.heap.size, 0, none⟩ = some (.int .i8 x.k) ∧ V.cell? ⟨w.heap.size, 1, none⟩ = some (.int .i64 x.n) ∧ V.cell? ⟨w.heap.size, 2, none⟩ = some (.string x.s) ∧ V.cell? ⟨w.heap.size, 3, none⟩ = some (.string x.t) ∧ V.cell? ⟨w.heap.size, 4, none⟩ = some (.slice p x.l.length c)) → ∀ {cs : Array Value}, ((V.setRow (w.heap.size + 1) cs).cell? ⟨w.heap.size, 0, none⟩ = some (.int .i8 x.k) ∧ (V.setRow (w.heap.size + 1) cs).cell? ⟨w.heap.size, 1, none⟩ = some (.int .i64 x.n) ∧ (V.setRow (w.heap.size + 1) cs).cell? ⟨w.heap.size, 2, none⟩ = some (.string x.s) ∧ (V.setRow (w.heap.size + 1) cs).cell? ⟨w.heap.size, 3, none⟩ = some (.string x.t) ∧ (V.setRow (w.heap.size + 1) cs).cell? ⟨w.heap.size, 4, none⟩ = some (.slice p x.l.length c)) := by
    rintro V ⟨h0, h1, h2, h3, h4⟩ cs
    have e := fun o => World.cell?_of_block (a := ⟨w.heap.size, o, none⟩) (setRow_ne (X := V) (cells := cs) (show w.heap.size ≠ w.heap.size + 1 by omega))
    exact ⟨(e 0).trans h0, (e 1).trans h1, (e 2).trans h2, (e 3).trans h3, (e 4).trans h4⟩
  refine wp_region_held_drew (S := fun V => V.cell? ⟨w.heap.size, 0, none⟩ = some (.int .i8 x.k) ∧ V.cell? ⟨w.heap.size, 1, none⟩ = some (.int .i64 x.n) ∧ V.cell? ⟨w.heap.size, 2, none⟩ = some (.string x.s) ∧ V.cell? ⟨w.heap.size, 3, none⟩ = some (.string x.t) ∧ V.cell? ⟨w.heap.size, 4, none⟩ = some (.slice p x.l.length c)) (by kernel_rfl) ?_ (fun hHeld => ?_)
  · (try dsimp only); (first | with_reducible exact hS20 | with_reducible exact hS19 | with_reducible exact hS3 | with_reducible exact hS1 | exact hS9 | exact hS0)
  refine wpAnyH_take (i := 1) (v := ?_) rfl (by kernel_rfl) (by kernel_rfl) (by kernel_rfl) (fun _ _ _ h => h) (Or.inl ⟨by rfl, ?_⟩) (by assumption) ?_
  rotate_left 1
  (intro w hSw; (try dsimp only at hSw); go_simp; try with_reducible rfl)
  (try simp only [List.getElem_toArray, List.getElem_cons_succ, List.getElem_cons_zero, Act.put, List.setIfInBounds_toArray, List.set_cons_zero, List.set_cons_succ])
  refine wpAnyH_take (i := 4) (v := ?_) rfl (by kernel_rfl) (by kernel_rfl) (by kernel_rfl) (fun _ _ _ h => h) (Or.inl ⟨by rfl, ?_⟩) (by assumption) ?_
  rotate_left 1
  (intro w hSw; (try dsimp only at hSw); go_simp; try with_reducible rfl)
  (try simp only [List.getElem_toArray, List.getElem_cons_succ, List.getElem_cons_zero, Act.put, List.setIfInBounds_toArray, List.set_cons_zero, List.set_cons_succ])
  refine wpAnyH_ready (rs := [0]) (by kernel_rfl) (by simp) ?_
  refine AllReadyH.cons rfl (fun K hK => ?_) AllReadyH.nil
  go_simp
  go_wp2_with (first | (go_at_call 20; refine (ratom_any _ _).mono ?_; rintro e v1 ⟨rfl, hc1⟩; have hb11 := hb0.trans (hc1.mono hb0.size); have hS1 := hmv _ hb11) | (go_at_call 29; refine (sure_any _ _).mono ?_; rintro e v2 ⟨rfl, hc2⟩; subst hc2) | (go_at_call 28; refine (rpid_any _ _).mono ?_; rintro e v3 ⟨rfl, hc3⟩; have hb13 := hb11.trans (hc3.mono hb11.size); have hS3 := hmv _ hb13; have hn9 := heap_new v3 (.cells (row15 (aT ⟨#[101, 120, 105, 116, 101, 100]⟩) (nT 4 (clN n)) x (.slice none 0 0) (.slice none 0 0) (.slice p x.l.length c)) 25); have hb9 := hb13.trans ((alloc_below v3 (.cells (row15 (aT ⟨#[101, 120, 105, 116, 101, 100]⟩) (nT 4 (clN n)) x (.slice none 0 0) (.slice none 0 0) (.slice p x.l.length c)) 25)).mono hb13.size); have hS9 := hmv _ hb9; have cI := limit3_any (F := fun k => F k ∧ k < w.heap.size) (HL.out.under hb9) hn9 (aT_lies (by decide)) (nT_lies (by decide)) (HX.out.below hb9) (fun h => by have := hb13.size; have := h.2; omega) (fun k hk => by have := hb9.size; have := hk.2; omega) (by have := hb13.size; omega); rw [hY] at cI) | (go_at_call 27; go_loud (refine cI.mono ?_; rintro e v9 ⟨sv9, rfl, hy9, ht9⟩; obtain ⟨q9, c9, rfl⟩ := hy9.kids.slice; have hb19 := hb9.trans (ht9.below (B := w1.heap.size) hb9.size (fun k hk h => by have := hb13.size; omega)); have hS19 := hmv _ hb19; have hn19 := (hb19.block _ (Array.getElem?_eq_some_iff.1 N2.out).1).trans N2.out; have hb20 := below_setRow (g := w.heap.size + 1) (cells := cells6 (Y) true (.slice q9 (Y).l.length c9)) (hb1.trans (hb19.mono hb1.size)) (by omega); have hr20 := setRow_heap' (cells := cells6 (Y) true (.slice q9 (Y).l.length c9)) hn19; have hS20 := hmv2 _ hS19 (cs := cells6 Y true (.slice q9 Y.l.length c9)); have hy20 := hy9.move (P' := fun k => F k ∨ w.heap.size ≤ k) (w' := v9.setRow (w.heap.size + 1) (cells6 (Y) true (.slice q9 (Y).l.length c9))) (fun k hk _ => setRow_ne (by have h1 := hb13.size; have h2 := hb9.size; omega)) (fun k hk _ => by have h1 := hb13.size; have h2 := hb9.size; rcases hk with hk | hk | hk; exact .inl hk.1; exact .inr (by omega); exact .inr (by omega)))))
  refine hK.out _ _ ?_ (fun hHeld => ?_)
  · (try dsimp only); (first | with_reducible exact hS20 | with_reducible exact hS19 | with_reducible exact hS3 | with_reducible exact hS1 | exact hS9 | exact hS0)
  clear hK K
  (try simp only [List.getElem_toArray, List.getElem_cons_zero, Act.put, List.setIfInBounds_toArray, List.set_cons_zero, List.set_cons_succ])
  refine wpAnyH_ready (rs := [2]) (by kernel_rfl) (by simp) ?_
  refine AllReadyH.cons rfl (fun K hK => ?_) AllReadyH.nil
  go_simp
  go_wp2_with (first | (go_at_call 20; refine (ratom_any _ _).mono ?_; rintro e v1 ⟨rfl, hc1⟩; have hb11 := hb0.trans (hc1.mono hb0.size); have hS1 := hmv _ hb11) | (go_at_call 29; refine (sure_any _ _).mono ?_; rintro e v2 ⟨rfl, hc2⟩; subst hc2) | (go_at_call 28; refine (rpid_any _ _).mono ?_; rintro e v3 ⟨rfl, hc3⟩; have hb13 := hb11.trans (hc3.mono hb11.size); have hS3 := hmv _ hb13; have hn9 := heap_new v3 (.cells (row15 (aT ⟨#[101, 120, 105, 116, 101, 100]⟩) (nT 4 (clN n)) x (.slice none 0 0) (.slice none 0 0) (.slice p x.l.length c)) 25); have hb9 := hb13.trans ((alloc_below v3 (.cells (row15 (aT ⟨#[101, 120, 105, 116, 101, 100]⟩) (nT 4 (clN n)) x (.slice none 0 0) (.slice none 0 0) (.slice p x.l.length c)) 25)).mono hb13.size); have hS9 := hmv _ hb9; have cI := limit3_any (F := fun k => F k ∧ k < w.heap.size) (HL.out.under hb9) hn9 (aT_lies (by decide)) (nT_lies (by decide)) (HX.out.below hb9) (fun h => by have := hb13.size; have := h.2; omega) (fun k hk => by have := hb9.size; have := hk.2; omega) (by have := hb13.size; omega); rw [hY] at cI) | (go_at_call 27; go_loud (refine cI.mono ?_; rintro e v9 ⟨sv9, rfl, hy9, ht9⟩; obtain ⟨q9, c9, rfl⟩ := hy9.kids.slice; have hb19 := hb9.trans (ht9.below (B := w1.heap.size) hb9.size (fun k hk h => by have := hb13.size; omega)); have hS19 := hmv _ hb19; have hn19 := (hb19.block _ (Array.getElem?_eq_some_iff.1 N2.out).1).trans N2.out; have hb20 := below_setRow (g := w.heap.size + 1) (cells := cells6 (Y) true (.slice q9 (Y).l.length c9)) (hb1.trans (hb19.mono hb1.size)) (by omega); have hr20 := setRow_heap' (cells := cells6 (Y) true (.slice q9 (Y).l.length c9)) hn19; have hS20 := hmv2 _ hS19 (cs := cells6 Y true (.slice q9 Y.l.length c9)); have hy20 := hy9.move (P' := fun k => F k ∨ w.heap.size ≤ k) (w' := v9.setRow (w.heap.size + 1) (cells6 (Y) true (.slice q9 (Y).l.length c9))) (fun k hk _ => setRow_ne (by have h1 := hb13.size; have h2 := hb9.size; omega)) (fun k hk _ => by have h1 := hb13.size; have h2 := hb9.size; rcases hk with hk | hk | hk; exact .inl hk.1; exact .inr (by omega); exact .inr (by omega)))))
  refine hK.out _ _ ?_ (fun hHeld => ?_)
  · (try dsimp only); (first | with_reducible exact hS20 | with_reducible exact hS19 | with_reducible exact hS3 | with_reducible exact hS1 | exact hS9 | exact hS0)
  clear hK K
  (try simp only [List.getElem_toArray, List.getElem_cons_succ, List.getElem_cons_zero, Act.put, List.setIfInBounds_toArray, List.set_cons_zero, List.set_cons_succ])
  refine wpAnyH_ready (rs := [3]) (by kernel_rfl) (by simp) ?_
  refine AllReadyH.cons rfl (fun K hK => ?_) AllReadyH.nil
  go_simp
  go_wp2_with (first | (go_at_call 20; refine (ratom_any _ _).mono ?_; rintro e v1 ⟨rfl, hc1⟩; have hb11 := hb0.trans (hc1.mono hb0.size); have hS1 := hmv _ hb11) | (go_at_call 29; refine (sure_any _ _).mono ?_; rintro e v2 ⟨rfl, hc2⟩; subst hc2) | (go_at_call 28; refine (rpid_any _ _).mono ?_; rintro e v3 ⟨rfl, hc3⟩; have hb13 := hb11.trans (hc3.mono hb11.size); have hS3 := hmv _ hb13; have hn9 := heap_new v3 (.cells (row15 (aT ⟨#[101, 120, 105, 116, 101, 100]⟩) (nT 4 (clN n)) x (.slice none 0 0) (.slice none 0 0) (.slice p x.l.length c)) 25); have hb9 := hb13.trans ((alloc_below v3 (.cells (row15 (aT ⟨#[101, 120, 105, 116, 101, 100]⟩) (nT 4 (clN n)) x (.slice none 0 0) (.slice none 0 0) (.slice p x.l.length c)) 25)).mono hb13.size); have hS9 := hmv _ hb9; have cI := limit3_any (F := fun k => F k ∧ k < w.heap.size) (HL.out.under hb9) hn9 (aT_lies (by decide)) (nT_lies (by decide)) (HX.out.below hb9) (fun h => by have := hb13.size; have := h.2; omega) (fun k hk => by have := hb9.size; have := hk.2; omega) (by have := hb13.size; omega); rw [hY] at cI) | (go_at_call 27; go_loud (refine cI.mono ?_; rintro e v9 ⟨sv9, rfl, hy9, ht9⟩; obtain ⟨q9, c9, rfl⟩ := hy9.kids.slice; have hb19 := hb9.trans (ht9.below (B := w1.heap.size) hb9.size (fun k hk h => by have := hb13.size; omega)); have hS19 := hmv _ hb19; have hn19 := (hb19.block _ (Array.getElem?_eq_some_iff.1 N2.out).1).trans N2.out; have hb20 := below_setRow (g := w.heap.size + 1) (cells := cells6 (Y) true (.slice q9 (Y).l.length c9)) (hb1.trans (hb19.mono hb1.size)) (by omega); have hr20 := setRow_heap' (cells := cells6 (Y) true (.slice q9 (Y).l.length c9)) hn19; have hS20 := hmv2 _ hS19 (cs := cells6 Y true (.slice q9 Y.l.length c9)); have hy20 := hy9.move (P' := fun k => F k ∨ w.heap.size ≤ k) (w' := v9.setRow (w.heap.size + 1) (cells6 (Y) true (.slice q9 (Y).l.length c9))) (fun k hk _ => setRow_ne (by have h1 := hb13.size; have h2 := hb9.size; omega)) (fun k hk _ => by have h1 := hb13.size; have h2 := hb9.size; rcases hk with hk | hk | hk; exact .inl hk.1; exact .inr (by omega); exact .inr (by omega)))))
  refine hK.out _ _ ?_ (fun hHeld => ?_)
  · (try dsimp only); (first | with_reducible exact hS20 | with_reducible exact hS19 | with_reducible exact hS3 | with_reducible exact hS1 | exact hS9 | exact hS0)
  clear hK K
  (try simp only [List.getElem_toArray, List.getElem_cons_succ, List.getElem_cons_zero, Act.put, List.setIfInBounds_toArray, List.set_cons_zero, List.set_cons_succ])
  refine wpAnyH_ready (rs := [5]) (by kernel_rfl) (by simp) ?_
  refine AllReadyH.cons rfl (fun K hK => ?_) AllReadyH.nil
  go_simp
  refine hK.out _ _ ?_ (fun hHeld => ?_)
  · (try dsimp only); (first | with_reducible exact hS20 | with_reducible exact hS19 | with_reducible exact hS3 | with_reducible exact hS1 | exact hS9 | exact hS0)
  clear hK K
  (try simp only [List.getElem_toArray, List.getElem_cons_succ, List.getElem_cons_zero, Act.put, List.setIfInBounds_toArray, List.set_cons_zero, List.set_cons_succ])
  refine wpAnyH_ready (rs := [6]) (by kernel_rfl) (by simp) ?_
  refine AllReadyH.cons rfl (fun K hK => ?_) AllReadyH.nil
  go_simp
  go_wp2_with (first | (go_at_call 20; refine (ratom_any _ _).mono ?_; rintro e v1 ⟨rfl, hc1⟩; have hb11 := hb0.trans (hc1.mono hb0.size); have hS1 := hmv _ hb11) | (go_at_call 29; refine (sure_any _ _).mono ?_; rintro e v2 ⟨rfl, hc2⟩; subst hc2) | (go_at_call 28; refine (rpid_any _ _).mono ?_; rintro e v3 ⟨rfl, hc3⟩; have hb13 := hb11.trans (hc3.mono hb11.size); have hS3 := hmv _ hb13; have hn9 := heap_new v3 (.cells (row15 (aT ⟨#[101, 120, 105, 116, 101, 100]⟩) (nT 4 (clN n)) x (.slice none 0 0) (.slice none 0 0) (.slice p x.l.length c)) 25); have hb9 := hb13.trans ((alloc_below v3 (.cells (row15 (aT ⟨#[101, 120, 105, 116, 101, 100]⟩) (nT 4 (clN n)) x (.slice none 0 0) (.slice none 0 0) (.slice p x.l.length c)) 25)).mono hb13.size); have hS9 := hmv _ hb9; have cI := limit3_any (F := fun k => F k ∧ k < w.heap.size) (HL.out.under hb9) hn9 (aT_lies (by decide)) (nT_lies (by decide)) (HX.out.below hb9) (fun h => by have := hb13.size; have := h.2; omega) (fun k hk => by have := hb9.size; have := hk.2; omega) (by have := hb13.size; omega); rw [hY] at cI) | (go_at_call 27; go_loud (refine cI.mono ?_; rintro e v9 ⟨sv9, rfl, hy9, ht9⟩; obtain ⟨q9, c9, rfl⟩ := hy9.kids.slice; have hb19 := hb9.trans (ht9.below (B := w1.heap.size) hb9.size (fun k hk h => by have := hb13.size; omega)); have hS19 := hmv _ hb19; have hn19 := (hb19.block _ (Array.getElem?_eq_some_iff.1 N2.out).1).trans N2.out; have hb20 := below_setRow (g := w.heap.size + 1) (cells := cells6 (Y) true (.slice q9 (Y).l.length c9)) (hb1.trans (hb19.mono hb1.size)) (by omega); have hr20 := setRow_heap' (cells := cells6 (Y) true (.slice q9 (Y).l.length c9)) hn19; have hS20 := hmv2 _ hS19 (cs := cells6 Y true (.slice q9 Y.l.length c9)); have hy20 := hy9.move (P' := fun k => F k ∨ w.heap.size ≤ k) (w' := v9.setRow (w.heap.size + 1) (cells6 (Y) true (.slice q9 (Y).l.length c9))) (fun k hk _ => setRow_ne (by have h1 := hb13.size; have h2 := hb9.size; omega)) (fun k hk _ => by have h1 := hb13.size; have h2 := hb9.size; rcases hk with hk | hk | hk; exact .inl hk.1; exact .inr (by omega); exact .inr (by omega)))))
  refine hK.out _ _ ?_ (fun hHeld => ?_)
  · (try dsimp only); (first | with_reducible exact hS20 | with_reducible exact hS19 | with_reducible exact hS3 | with_reducible exact hS1 | exact hS9 | exact hS0)
  clear hK K
  (try simp only [List.getElem_toArray, List.getElem_cons_succ, List.getElem_cons_zero, Act.put, List.setIfInBounds_toArray, List.set_cons_zero, List.set_cons_succ])
  refine wpAnyH_take (i := 7) (v := ?_) rfl (by kernel_rfl) (by kernel_rfl) (by kernel_rfl) (fun _ _ _ h => h) (Or.inl ⟨by rfl, ?_⟩) (by assumption) ?_
  rotate_left 1
  (intro w hSw; (try dsimp only at hSw); go_simp; try with_reducible rfl)
  (try simp only [List.getElem_toArray, List.getElem_cons_succ, List.getElem_cons_zero, Act.put, List.setIfInBounds_toArray, List.set_cons_zero, List.set_cons_succ])
  refine wpAnyH_ready (rs := [8]) (by kernel_rfl) (by simp) ?_
  refine AllReadyH.cons rfl (fun K hK => ?_) AllReadyH.nil
  (refine step_store_row rfl 29 _ _ rfl (w.heap.size + 1) (cells6 (Y) true (.slice q9 (Y).l.length c9)) (by kernel_rfl) (by kernel_rfl) 29 (cells6 zeroT false (.slice none 0 0)) hn19 (size69 _ _ _) (by kernel_rfl) (by kernel_rfl) ?_)
  refine hK.out _ _ ?_ (fun hHeld => ?_)
  · (try dsimp only); (first | with_reducible exact hS20 | with_reducible exact hS19 | with_reducible exact hS3 | with_reducible exact hS1 | exact hS9 | exact hS0)
  clear hK K
  (try simp only [List.getElem_toArray, List.getElem_cons_succ, List.getElem_cons_zero, Act.put])
  refine wpAnyH_done (by kernel_rfl) ?_ _
  go_wp2_with fail
  exact bodyPost_ret (v := .agg (cells6 (Y) true (.slice q9 (Y).l.length c9))) (results_cell_row Tryz.results7 _ _ (w.heap.size + 1) 29 (cells6 (Y) true (.slice q9 (Y).l.length c9)) (0, 0) _ rfl hr20 Tryz.underlying29 rfl (size69 _ _ _)) rfl ⟨_, rfl, hy20, hb20⟩
set_option maxHeartbeats 1600000 in
set_option maxRecDepth 100000 in
theorem rdown_any {F : Nat → Prop} {w : World} {x : Tr} {m n : Int} {sv : Value} (hL : Letters w) (hx : TrV F w x sv) :
    Calls Tryz.prog 9 #[.int .i64 m, .int .i64 n, .agg #[.int .i8 x.k, .int .i64 x.n, .string x.s, .string x.t, sv]] w fun e w' => ∃ sv', e = .returned (.agg (cells6 (dnS m n x) true sv')) ∧ TrV (fun k => F k ∨ w.heap.size ≤ k) w' (dnS m n x) sv' ∧ Below w.heap.size w w' := by
  obtain ⟨p, c, rfl⟩ := hx.kids.slice
  obtain ⟨n1, n2, hb1, hz1⟩ := two_new w (.cells #[.int .i8 x.k, .int .i64 x.n, .string x.s, .string x.t, .slice p x.l.length c] 25) (.cells (cells6 zeroT false (.slice none 0 0)) 29)
  have HX := Lib.hid ((hx.mono (P' := fun k => F k ∧ k < w.heap.size) fun _ hk h => ⟨hk, h⟩).below hb1)
  have HL := Lib.hid (hL.under hb1)
  have hl0 := hL.lt
  clear hx hL
  obtain ⟨Y, hY⟩ : ∃ Y, limS [aT ⟨#[100, 111, 119, 110]⟩, nT 2 (clN m), nT 4 (clN n)] x = Y := ⟨_, rfl⟩
  have hE : dnS m n x = Y := hY
  rw [hE]
  clear hE
  go_enter Tryz.func9, Tryz.ntmps9
  go_upto_region 1 with fail
  change Code.wp _ _ _ _ ((w.alloc (.cells #[.int .i8 x.k, .int .i64 x.n, .string x.s, .string x.t, .slice p x.l.length c] 25)).alloc (.cells (cells6 zeroT false (.slice none 0 0)) 29))
  generalize ((w.alloc (.cells #[.int .i8 x.k, .int .i64 x.n, .string x.s, .string x.t, .slice p x.l.length c] 25)).alloc (.cells (cells6 zeroT false (.slice none 0 0)) 29)) = w1 at n1 n2 hb1 hz1 HX HL ⊢
  have hb0 : Below w1.heap.size w1 w1.drew := below_drewN (Below.refl _ _) 1
  have hmv : ∀ V : World, Below w1.heap.size w1 V → V.cell? ⟨w.heap.size, 0, none⟩ = some (.int .i8 x.k) ∧ V.cell? ⟨w.heap.size, 1, none⟩ = some (.int .i64 x.n) ∧ V.cell? ⟨w.heap.size, 2, none⟩ = some (.string x.s) ∧ V.cell? ⟨w.heap.size, 3, none⟩ = some (.string x.t) ∧ V.cell? ⟨w.heap.size, 4, none⟩ = some (.slice p x.l.length c) := by
    intro V hv
    have k1 := (hv.block _ (Array.getElem?_eq_some_iff.1 n1).1).trans n1
    exact ⟨(arr_cell k1).trans rfl, (arr_cell k1).trans rfl, (arr_cell k1).trans rfl, (arr_cell k1).trans rfl, (arr_cell k1).trans rfl⟩
  have hS0 := hmv w1 (Below.refl _ _)
  have N2 := Lib.hid n2
  clear n1 n2

  have tok1 : True := trivial
  have hmv2 : ∀ V : World, (V.cell? ⟨w.heap.size, 0, none⟩ = some (.int .i8 x.k) ∧ V.cell? ⟨w.heap.size, 1, none⟩ = some (.int .i64 x.n) ∧ V.cell? ⟨w.heap.size, 2, none⟩ = some (.string x.s) ∧ V.cell? ⟨w.heap.size, 3, none⟩ = some (.string x.t) ∧ V.cell? ⟨w.heap.size, 4, none⟩ = some (.slice p x.l.length c)) → ∀ {cs : Array Value}, ((V.setRow (w.heap.size + 1) cs).cell? ⟨w.heap.size, 0, none⟩ = some (.int .i8 x.k) ∧ (V.setRow (w.heap.size + 1) cs).cell? ⟨w.heap.size, 1, none⟩ = some (.int .i64 x.n) ∧ (V.setRow (w.heap.size + 1) cs).cell? ⟨w.heap.size, 2, none⟩ = some (.string x.s) ∧ (V.setRow (w.heap.size + 1) cs).cell? ⟨w.heap.size, 3, none⟩ = some (.string x.t) ∧ (V.setRow (w.heap.size + 1) cs).cell? ⟨w.heap.size, 4, none⟩ = some (.slice p x.l.length c)) := by
    rintro V ⟨h0, h1, h2, h3, h4⟩ cs
    have e := fun o => World.cell?_of_block (a := ⟨w.heap.size, o, none⟩) (setRow_ne (X := V) (cells := cs) (show w.heap.size ≠ w.heap.size + 1 by omega))
    exact ⟨(e 0).trans h0, (e 1).trans h1, (e 2).trans h2, (e 3).trans h3, (e 4).trans h4⟩
  refine wp_region_held_drew (S := fun V => V.cell? ⟨w.heap.size, 0, none⟩ = some (.int .i8 x.k) ∧ V.cell? ⟨w.heap.size, 1, none⟩ = some (.int .i64 x.n) ∧ V.cell? ⟨w.heap.size, 2, none⟩ = some (.string x.s) ∧ V.cell? ⟨w.heap.size, 3, none⟩ = some (.string x.t) ∧ V.cell? ⟨w.heap.size, 4, none⟩ = some (.slice p x.l.length c)) (by kernel_rfl) ?_ (fun hHeld => ?_)
  · (try dsimp only); (first | with_reducible exact hS20 | with_reducible exact hS19 | with_reducible exact hS5 | with_reducible exact hS3 | with_reducible exact hS1 | exact hS9 | exact hS0)
  refine wpAnyH_take (i := 1) (v := ?_) rfl (by kernel_rfl) (by kernel_rfl) (by kernel_rfl) (fun _ _ _ h => h) (Or.inl ⟨by rfl, ?_⟩) (by assumption) ?_
  rotate_left 1
  (intro w hSw; (try dsimp only at hSw); go_simp; try with_reducible rfl)
  (try simp only [List.getElem_toArray, List.getElem_cons_succ, List.getElem_cons_zero, Act.put, List.setIfInBounds_toArray, List.set_cons_zero, List.set_cons_succ])
  refine wpAnyH_take (i := 4) (v := ?_) rfl (by kernel_rfl) (by kernel_rfl) (by kernel_rfl) (fun _ _ _ h => h) (Or.inl ⟨by rfl, ?_⟩) (by assumption) ?_
  rotate_left 1
  (intro w hSw; (try dsimp only at hSw); go_simp; try with_reducible rfl)
  (try simp only [List.getElem_toArray, List.getElem_cons_succ, List.getElem_cons_zero, Act.put, List.setIfInBounds_toArray, List.set_cons_zero, List.set_cons_succ])
  refine wpAnyH_take (i := 7) (v := ?_) rfl (by kernel_rfl) (by kernel_rfl) (by kernel_rfl) (fun _ _ _ h => h) (Or.inl ⟨by rfl, ?_⟩) (by assumption) ?_
  rotate_left 1
  (intro w hSw; (try dsimp only at hSw); go_simp; try with_reducible rfl)
  (try simp only [List.getElem_toArray, List.getElem_cons_succ, List.getElem_cons_zero, Act.put, List.setIfInBounds_toArray, List.set_cons_zero, List.set_cons_succ])
  refine wpAnyH_ready (rs := [0]) (by kernel_rfl) (by simp) ?_
  refine AllReadyH.cons rfl (fun K hK => ?_) AllReadyH.nil
  go_simp
  go_wp2_with (first | (go_at_call 20; refine (ratom_any _ _).mono ?_; rintro e v1 ⟨rfl, hc1⟩; have hb11 := hb0.trans (hc1.mono hb0.size); have hS1 := hmv _ hb11) | (go_at_call 29; have _t := tok1; clear tok1; refine (sure_any _ _).mono ?_; rintro e v2 ⟨rfl, hc2⟩; subst hc2) | (go_at_call 30; refine (rref_any _ _).mono ?_; rintro e v3 ⟨rfl, hc3⟩; have hb13 := hb11.trans (hc3.mono hb11.size); have hS3 := hmv _ hb13) | (go_at_call 29; refine (sure_any _ _).mono ?_; rintro e v4 ⟨rfl, hc4⟩; subst hc4) | (go_at_call 28; refine (rpid_any _ _).mono ?_; rintro e v5 ⟨rfl, hc5⟩; have hb15 := hb13.trans (hc5.mono hb13.size); have hS5 := hmv _ hb15; have hn9 := heap_new v5 (.cells (row20 (aT ⟨#[100, 111, 119, 110]⟩) (nT 2 (clN m)) (nT 4 (clN n)) x (.slice none 0 0) (.slice none 0 0) (.slice none 0 0) (.slice p x.l.length c)) 25); have hb9 := hb15.trans ((alloc_below v5 (.cells (row20 (aT ⟨#[100, 111, 119, 110]⟩) (nT 2 (clN m)) (nT 4 (clN n)) x (.slice none 0 0) (.slice none 0 0) (.slice none 0 0) (.slice p x.l.length c)) 25)).mono hb15.size); have hS9 := hmv _ hb9; have cI := limit4_any (F := fun k => F k ∧ k < w.heap.size) (HL.out.under hb9) hn9 (aT_lies (by decide)) (nT_lies (by decide)) (nT_lies (by decide)) (HX.out.below hb9) (fun h => by have := hb15.size; have := h.2; omega) (fun k hk => by have := hb9.size; have := hk.2; omega) (by have := hb15.size; omega); rw [hY] at cI) | (go_at_call 27; go_loud (refine cI.mono ?_; rintro e v9 ⟨sv9, rfl, hy9, ht9⟩; obtain ⟨q9, c9, rfl⟩ := hy9.kids.slice; have hb19 := hb9.trans (ht9.below (B := w1.heap.size) hb9.size (fun k hk h => by have := hb15.size; omega)); have hS19 := hmv _ hb19; have hn19 := (hb19.block _ (Array.getElem?_eq_some_iff.1 N2.out).1).trans N2.out; have hb20 := below_setRow (g := w.heap.size + 1) (cells := cells6 (Y) true (.slice q9 (Y).l.length c9)) (hb1.trans (hb19.mono hb1.size)) (by omega); have hr20 := setRow_heap' (cells := cells6 (Y) true (.slice q9 (Y).l.length c9)) hn19; have hS20 := hmv2 _ hS19 (cs := cells6 Y true (.slice q9 Y.l.length c9)); have hy20 := hy9.move (P' := fun k => F k ∨ w.heap.size ≤ k) (w' := v9.setRow (w.heap.size + 1) (cells6 (Y) true (.slice q9 (Y).l.length c9))) (fun k hk _ => setRow_ne (by have h1 := hb15.size; have h2 := hb9.size; omega)) (fun k hk _ => by have h1 := hb15.size; have h2 := hb9.size; rcases hk with hk | hk | hk; exact .inl hk.1; exact .inr (by omega); exact .inr (by omega)))))
  refine hK.out _ _ ?_ (fun hHeld => ?_)
  · (try dsimp only); (first | with_reducible exact hS20 | with_reducible exact hS19 | with_reducible exact hS5 | with_reducible exact hS3 | with_reducible exact hS1 | exact hS9 | exact hS0)
  clear hK K
  (try simp only [List.getElem_toArray, List.getElem_cons_zero, Act.put, List.setIfInBounds_toArray, List.set_cons_zero, List.set_cons_succ])
  refine wpAnyH_ready (rs := [2]) (by kernel_rfl) (by simp) ?_
  refine AllReadyH.cons rfl (fun K hK => ?_) AllReadyH.nil
  go_simp
  go_wp2_with (first | (go_at_call 20; refine (ratom_any _ _).mono ?_; rintro e v1 ⟨rfl, hc1⟩; have hb11 := hb0.trans (hc1.mono hb0.size); have hS1 := hmv _ hb11) | (go_at_call 29; have _t := tok1; clear tok1; refine (sure_any _ _).mono ?_; rintro e v2 ⟨rfl, hc2⟩; subst hc2) | (go_at_call 30; refine (rref_any _ _).mono ?_; rintro e v3 ⟨rfl, hc3⟩; have hb13 := hb11.trans (hc3.mono hb11.size); have hS3 := hmv _ hb13) | (go_at_call 29; refine (sure_any _ _).mono ?_; rintro e v4 ⟨rfl, hc4⟩; subst hc4) | (go_at_call 28; refine (rpid_any _ _).mono ?_; rintro e v5 ⟨rfl, hc5⟩; have hb15 := hb13.trans (hc5.mono hb13.size); have hS5 := hmv _ hb15; have hn9 := heap_new v5 (.cells (row20 (aT ⟨#[100, 111, 119, 110]⟩) (nT 2 (clN m)) (nT 4 (clN n)) x (.slice none 0 0) (.slice none 0 0) (.slice none 0 0) (.slice p x.l.length c)) 25); have hb9 := hb15.trans ((alloc_below v5 (.cells (row20 (aT ⟨#[100, 111, 119, 110]⟩) (nT 2 (clN m)) (nT 4 (clN n)) x (.slice none 0 0) (.slice none 0 0) (.slice none 0 0) (.slice p x.l.length c)) 25)).mono hb15.size); have hS9 := hmv _ hb9; have cI := limit4_any (F := fun k => F k ∧ k < w.heap.size) (HL.out.under hb9) hn9 (aT_lies (by decide)) (nT_lies (by decide)) (nT_lies (by decide)) (HX.out.below hb9) (fun h => by have := hb15.size; have := h.2; omega) (fun k hk => by have := hb9.size; have := hk.2; omega) (by have := hb15.size; omega); rw [hY] at cI) | (go_at_call 27; go_loud (refine cI.mono ?_; rintro e v9 ⟨sv9, rfl, hy9, ht9⟩; obtain ⟨q9, c9, rfl⟩ := hy9.kids.slice; have hb19 := hb9.trans (ht9.below (B := w1.heap.size) hb9.size (fun k hk h => by have := hb15.size; omega)); have hS19 := hmv _ hb19; have hn19 := (hb19.block _ (Array.getElem?_eq_some_iff.1 N2.out).1).trans N2.out; have hb20 := below_setRow (g := w.heap.size + 1) (cells := cells6 (Y) true (.slice q9 (Y).l.length c9)) (hb1.trans (hb19.mono hb1.size)) (by omega); have hr20 := setRow_heap' (cells := cells6 (Y) true (.slice q9 (Y).l.length c9)) hn19; have hS20 := hmv2 _ hS19 (cs := cells6 Y true (.slice q9 Y.l.length c9)); have hy20 := hy9.move (P' := fun k => F k ∨ w.heap.size ≤ k) (w' := v9.setRow (w.heap.size + 1) (cells6 (Y) true (.slice q9 (Y).l.length c9))) (fun k hk _ => setRow_ne (by have h1 := hb15.size; have h2 := hb9.size; omega)) (fun k hk _ => by have h1 := hb15.size; have h2 := hb9.size; rcases hk with hk | hk | hk; exact .inl hk.1; exact .inr (by omega); exact .inr (by omega)))))
  refine hK.out _ _ ?_ (fun hHeld => ?_)
  · (try dsimp only); (first | with_reducible exact hS20 | with_reducible exact hS19 | with_reducible exact hS5 | with_reducible exact hS3 | with_reducible exact hS1 | exact hS9 | exact hS0)
  clear hK K
  (try simp only [List.getElem_toArray, List.getElem_cons_succ, List.getElem_cons_zero, Act.put, List.setIfInBounds_toArray, List.set_cons_zero, List.set_cons_succ])
  refine wpAnyH_ready (rs := [3]) (by kernel_rfl) (by simp) ?_
  refine AllReadyH.cons rfl (fun K hK => ?_) AllReadyH.nil
  go_simp
  go_wp2_with (first | (go_at_call 20; refine (ratom_any _ _).mono ?_; rintro e v1 ⟨rfl, hc1⟩; have hb11 := hb0.trans (hc1.mono hb0.size); have hS1 := hmv _ hb11) | (go_at_call 29; have _t := tok1; clear tok1; refine (sure_any _ _).mono ?_; rintro e v2 ⟨rfl, hc2⟩; subst hc2) | (go_at_call 30; refine (rref_any _ _).mono ?_; rintro e v3 ⟨rfl, hc3⟩; have hb13 := hb11.trans (hc3.mono hb11.size); have hS3 := hmv _ hb13) | (go_at_call 29; refine (sure_any _ _).mono ?_; rintro e v4 ⟨rfl, hc4⟩; subst hc4) | (go_at_call 28; refine (rpid_any _ _).mono ?_; rintro e v5 ⟨rfl, hc5⟩; have hb15 := hb13.trans (hc5.mono hb13.size); have hS5 := hmv _ hb15; have hn9 := heap_new v5 (.cells (row20 (aT ⟨#[100, 111, 119, 110]⟩) (nT 2 (clN m)) (nT 4 (clN n)) x (.slice none 0 0) (.slice none 0 0) (.slice none 0 0) (.slice p x.l.length c)) 25); have hb9 := hb15.trans ((alloc_below v5 (.cells (row20 (aT ⟨#[100, 111, 119, 110]⟩) (nT 2 (clN m)) (nT 4 (clN n)) x (.slice none 0 0) (.slice none 0 0) (.slice none 0 0) (.slice p x.l.length c)) 25)).mono hb15.size); have hS9 := hmv _ hb9; have cI := limit4_any (F := fun k => F k ∧ k < w.heap.size) (HL.out.under hb9) hn9 (aT_lies (by decide)) (nT_lies (by decide)) (nT_lies (by decide)) (HX.out.below hb9) (fun h => by have := hb15.size; have := h.2; omega) (fun k hk => by have := hb9.size; have := hk.2; omega) (by have := hb15.size; omega); rw [hY] at cI) | (go_at_call 27; go_loud (refine cI.mono ?_; rintro e v9 ⟨sv9, rfl, hy9, ht9⟩; obtain ⟨q9, c9, rfl⟩ := hy9.kids.slice; have hb19 := hb9.trans (ht9.below (B := w1.heap.size) hb9.size (fun k hk h => by have := hb15.size; omega)); have hS19 := hmv _ hb19; have hn19 := (hb19.block _ (Array.getElem?_eq_some_iff.1 N2.out).1).trans N2.out; have hb20 := below_setRow (g := w.heap.size + 1) (cells := cells6 (Y) true (.slice q9 (Y).l.length c9)) (hb1.trans (hb19.mono hb1.size)) (by omega); have hr20 := setRow_heap' (cells := cells6 (Y) true (.slice q9 (Y).l.length c9)) hn19; have hS20 := hmv2 _ hS19 (cs := cells6 Y true (.slice q9 Y.l.length c9)); have hy20 := hy9.move (P' := fun k => F k ∨ w.heap.size ≤ k) (w' := v9.setRow (w.heap.size + 1) (cells6 (Y) true (.slice q9 (Y).l.length c9))) (fun k hk _ => setRow_ne (by have h1 := hb15.size; have h2 := hb9.size; omega)) (fun k hk _ => by have h1 := hb15.size; have h2 := hb9.size; rcases hk with hk | hk | hk; exact .inl hk.1; exact .inr (by omega); exact .inr (by omega)))))
  refine hK.out _ _ ?_ (fun hHeld => ?_)
  · (try dsimp only); (first | with_reducible exact hS20 | with_reducible exact hS19 | with_reducible exact hS5 | with_reducible exact hS3 | with_reducible exact hS1 | exact hS9 | exact hS0)
  clear hK K
  (try simp only [List.getElem_toArray, List.getElem_cons_succ, List.getElem_cons_zero, Act.put, List.setIfInBounds_toArray, List.set_cons_zero, List.set_cons_succ])
  refine wpAnyH_ready (rs := [5]) (by kernel_rfl) (by simp) ?_
  refine AllReadyH.cons rfl (fun K hK => ?_) AllReadyH.nil
  go_simp
  go_wp2_with (first | (go_at_call 20; refine (ratom_any _ _).mono ?_; rintro e v1 ⟨rfl, hc1⟩; have hb11 := hb0.trans (hc1.mono hb0.size); have hS1 := hmv _ hb11) | (go_at_call 29; have _t := tok1; clear tok1; refine (sure_any _ _).mono ?_; rintro e v2 ⟨rfl, hc2⟩; subst hc2) | (go_at_call 30; refine (rref_any _ _).mono ?_; rintro e v3 ⟨rfl, hc3⟩; have hb13 := hb11.trans (hc3.mono hb11.size); have hS3 := hmv _ hb13) | (go_at_call 29; refine (sure_any _ _).mono ?_; rintro e v4 ⟨rfl, hc4⟩; subst hc4) | (go_at_call 28; refine (rpid_any _ _).mono ?_; rintro e v5 ⟨rfl, hc5⟩; have hb15 := hb13.trans (hc5.mono hb13.size); have hS5 := hmv _ hb15; have hn9 := heap_new v5 (.cells (row20 (aT ⟨#[100, 111, 119, 110]⟩) (nT 2 (clN m)) (nT 4 (clN n)) x (.slice none 0 0) (.slice none 0 0) (.slice none 0 0) (.slice p x.l.length c)) 25); have hb9 := hb15.trans ((alloc_below v5 (.cells (row20 (aT ⟨#[100, 111, 119, 110]⟩) (nT 2 (clN m)) (nT 4 (clN n)) x (.slice none 0 0) (.slice none 0 0) (.slice none 0 0) (.slice p x.l.length c)) 25)).mono hb15.size); have hS9 := hmv _ hb9; have cI := limit4_any (F := fun k => F k ∧ k < w.heap.size) (HL.out.under hb9) hn9 (aT_lies (by decide)) (nT_lies (by decide)) (nT_lies (by decide)) (HX.out.below hb9) (fun h => by have := hb15.size; have := h.2; omega) (fun k hk => by have := hb9.size; have := hk.2; omega) (by have := hb15.size; omega); rw [hY] at cI) | (go_at_call 27; go_loud (refine cI.mono ?_; rintro e v9 ⟨sv9, rfl, hy9, ht9⟩; obtain ⟨q9, c9, rfl⟩ := hy9.kids.slice; have hb19 := hb9.trans (ht9.below (B := w1.heap.size) hb9.size (fun k hk h => by have := hb15.size; omega)); have hS19 := hmv _ hb19; have hn19 := (hb19.block _ (Array.getElem?_eq_some_iff.1 N2.out).1).trans N2.out; have hb20 := below_setRow (g := w.heap.size + 1) (cells := cells6 (Y) true (.slice q9 (Y).l.length c9)) (hb1.trans (hb19.mono hb1.size)) (by omega); have hr20 := setRow_heap' (cells := cells6 (Y) true (.slice q9 (Y).l.length c9)) hn19; have hS20 := hmv2 _ hS19 (cs := cells6 Y true (.slice q9 Y.l.length c9)); have hy20 := hy9.move (P' := fun k => F k ∨ w.heap.size ≤ k) (w' := v9.setRow (w.heap.size + 1) (cells6 (Y) true (.slice q9 (Y).l.length c9))) (fun k hk _ => setRow_ne (by have h1 := hb15.size; have h2 := hb9.size; omega)) (fun k hk _ => by have h1 := hb15.size; have h2 := hb9.size; rcases hk with hk | hk | hk; exact .inl hk.1; exact .inr (by omega); exact .inr (by omega)))))
  refine hK.out _ _ ?_ (fun hHeld => ?_)
  · (try dsimp only); (first | with_reducible exact hS20 | with_reducible exact hS19 | with_reducible exact hS5 | with_reducible exact hS3 | with_reducible exact hS1 | exact hS9 | exact hS0)
  clear hK K
  (try simp only [List.getElem_toArray, List.getElem_cons_succ, List.getElem_cons_zero, Act.put, List.setIfInBounds_toArray, List.set_cons_zero, List.set_cons_succ])
  refine wpAnyH_ready (rs := [6]) (by kernel_rfl) (by simp) ?_
  refine AllReadyH.cons rfl (fun K hK => ?_) AllReadyH.nil
  go_simp
  go_wp2_with (first | (go_at_call 20; refine (ratom_any _ _).mono ?_; rintro e v1 ⟨rfl, hc1⟩; have hb11 := hb0.trans (hc1.mono hb0.size); have hS1 := hmv _ hb11) | (go_at_call 29; have _t := tok1; clear tok1; refine (sure_any _ _).mono ?_; rintro e v2 ⟨rfl, hc2⟩; subst hc2) | (go_at_call 30; refine (rref_any _ _).mono ?_; rintro e v3 ⟨rfl, hc3⟩; have hb13 := hb11.trans (hc3.mono hb11.size); have hS3 := hmv _ hb13) | (go_at_call 29; refine (sure_any _ _).mono ?_; rintro e v4 ⟨rfl, hc4⟩; subst hc4) | (go_at_call 28; refine (rpid_any _ _).mono ?_; rintro e v5 ⟨rfl, hc5⟩; have hb15 := hb13.trans (hc5.mono hb13.size); have hS5 := hmv _ hb15; have hn9 := heap_new v5 (.cells (row20 (aT ⟨#[100, 111, 119, 110]⟩) (nT 2 (clN m)) (nT 4 (clN n)) x (.slice none 0 0) (.slice none 0 0) (.slice none 0 0) (.slice p x.l.length c)) 25); have hb9 := hb15.trans ((alloc_below v5 (.cells (row20 (aT ⟨#[100, 111, 119, 110]⟩) (nT 2 (clN m)) (nT 4 (clN n)) x (.slice none 0 0) (.slice none 0 0) (.slice none 0 0) (.slice p x.l.length c)) 25)).mono hb15.size); have hS9 := hmv _ hb9; have cI := limit4_any (F := fun k => F k ∧ k < w.heap.size) (HL.out.under hb9) hn9 (aT_lies (by decide)) (nT_lies (by decide)) (nT_lies (by decide)) (HX.out.below hb9) (fun h => by have := hb15.size; have := h.2; omega) (fun k hk => by have := hb9.size; have := hk.2; omega) (by have := hb15.size; omega); rw [hY] at cI) | (go_at_call 27; go_loud (refine cI.mono ?_; rintro e v9 ⟨sv9, rfl, hy9, ht9⟩; obtain ⟨q9, c9, rfl⟩ := hy9.kids.slice; have hb19 := hb9.trans (ht9.below (B := w1.heap.size) hb9.size (fun k hk h => by have := hb15.size; omega)); have hS19 := hmv _ hb19; have hn19 := (hb19.block _ (Array.getElem?_eq_some_iff.1 N2.out).1).trans N2.out; have hb20 := below_setRow (g := w.heap.size + 1) (cells := cells6 (Y) true (.slice q9 (Y).l.length c9)) (hb1.trans (hb19.mono hb1.size)) (by omega); have hr20 := setRow_heap' (cells := cells6 (Y) true (.slice q9 (Y).l.length c9)) hn19; have hS20 := hmv2 _ hS19 (cs := cells6 Y true (.slice q9 Y.l.length c9)); have hy20 := hy9.move (P' := fun k => F k ∨ w.heap.size ≤ k) (w' := v9.setRow (w.heap.size + 1) (cells6 (Y) true (.slice q9 (Y).l.length c9))) (fun k hk _ => setRow_ne (by have h1 := hb15.size; have h2 := hb9.size; omega)) (fun k hk _ => by have h1 := hb15.size; have h2 := hb9.size; rcases hk with hk | hk | hk; exact .inl hk.1; exact .inr (by omega); exact .inr (by omega)))))
  refine hK.out _ _ ?_ (fun hHeld => ?_)
  · (try dsimp only); (first | with_reducible exact hS20 | with_reducible exact hS19 | with_reducible exact hS5 | with_reducible exact hS3 | with_reducible exact hS1 | exact hS9 | exact hS0)
  clear hK K
  (try simp only [List.getElem_toArray, List.getElem_cons_succ, List.getElem_cons_zero, Act.put, List.setIfInBounds_toArray, List.set_cons_zero, List.set_cons_succ])
  refine wpAnyH_ready (rs := [8]) (by kernel_rfl) (by simp) ?_
  refine AllReadyH.cons rfl (fun K hK => ?_) AllReadyH.nil
  go_simp
  refine hK.out _ _ ?_ (fun hHeld => ?_)
  · (try dsimp only); (first | with_reducible exact hS20 | with_reducible exact hS19 | with_reducible exact hS5 | with_reducible exact hS3 | with_reducible exact hS1 | exact hS9 | exact hS0)
  clear hK K
  (try simp only [List.getElem_toArray, List.getElem_cons_succ, List.getElem_cons_zero, Act.put, List.setIfInBounds_toArray, List.set_cons_zero, List.set_cons_succ])
  refine wpAnyH_ready (rs := [9]) (by kernel_rfl) (by simp) ?_
  refine AllReadyH.cons rfl (fun K hK => ?_) AllReadyH.nil
  go_simp
  go_wp2_with (first | (go_at_call 20; refine (ratom_any _ _).mono ?_; rintro e v1 ⟨rfl, hc1⟩; have hb11 := hb0.trans (hc1.mono hb0.size); have hS1 := hmv _ hb11) | (go_at_call 29; have _t := tok1; clear tok1; refine (sure_any _ _).mono ?_; rintro e v2 ⟨rfl, hc2⟩; subst hc2) | (go_at_call 30; refine (rref_any _ _).mono ?_; rintro e v3 ⟨rfl, hc3⟩; have hb13 := hb11.trans (hc3.mono hb11.size); have hS3 := hmv _ hb13) | (go_at_call 29; refine (sure_any _ _).mono ?_; rintro e v4 ⟨rfl, hc4⟩; subst hc4) | (go_at_call 28; refine (rpid_any _ _).mono ?_; rintro e v5 ⟨rfl, hc5⟩; have hb15 := hb13.trans (hc5.mono hb13.size); have hS5 := hmv _ hb15; have hn9 := heap_new v5 (.cells (row20 (aT ⟨#[100, 111, 119, 110]⟩) (nT 2 (clN m)) (nT 4 (clN n)) x (.slice none 0 0) (.slice none 0 0) (.slice none 0 0) (.slice p x.l.length c)) 25); have hb9 := hb15.trans ((alloc_below v5 (.cells (row20 (aT ⟨#[100, 111, 119, 110]⟩) (nT 2 (clN m)) (nT 4 (clN n)) x (.slice none 0 0) (.slice none 0 0) (.slice none 0 0) (.slice p x.l.length c)) 25)).mono hb15.size); have hS9 := hmv _ hb9; have cI := limit4_any (F := fun k => F k ∧ k < w.heap.size) (HL.out.under hb9) hn9 (aT_lies (by decide)) (nT_lies (by decide)) (nT_lies (by decide)) (HX.out.below hb9) (fun h => by have := hb15.size; have := h.2; omega) (fun k hk => by have := hb9.size; have := hk.2; omega) (by have := hb15.size; omega); rw [hY] at cI) | (go_at_call 27; go_loud (refine cI.mono ?_; rintro e v9 ⟨sv9, rfl, hy9, ht9⟩; obtain ⟨q9, c9, rfl⟩ := hy9.kids.slice; have hb19 := hb9.trans (ht9.below (B := w1.heap.size) hb9.size (fun k hk h => by have := hb15.size; omega)); have hS19 := hmv _ hb19; have hn19 := (hb19.block _ (Array.getElem?_eq_some_iff.1 N2.out).1).trans N2.out; have hb20 := below_setRow (g := w.heap.size + 1) (cells := cells6 (Y) true (.slice q9 (Y).l.length c9)) (hb1.trans (hb19.mono hb1.size)) (by omega); have hr20 := setRow_heap' (cells := cells6 (Y) true (.slice q9 (Y).l.length c9)) hn19; have hS20 := hmv2 _ hS19 (cs := cells6 Y true (.slice q9 Y.l.length c9)); have hy20 := hy9.move (P' := fun k => F k ∨ w.heap.size ≤ k) (w' := v9.setRow (w.heap.size + 1) (cells6 (Y) true (.slice q9 (Y).l.length c9))) (fun k hk _ => setRow_ne (by have h1 := hb15.size; have h2 := hb9.size; omega)) (fun k hk _ => by have h1 := hb15.size; have h2 := hb9.size; rcases hk with hk | hk | hk; exact .inl hk.1; exact .inr (by omega); exact .inr (by omega)))))
  refine hK.out _ _ ?_ (fun hHeld => ?_)
  · (try dsimp only); (first | with_reducible exact hS20 | with_reducible exact hS19 | with_reducible exact hS5 | with_reducible exact hS3 | with_reducible exact hS1 | exact hS9 | exact hS0)
  clear hK K
  (try simp only [List.getElem_toArray, List.getElem_cons_succ, List.getElem_cons_zero, Act.put, List.setIfInBounds_toArray, List.set_cons_zero, List.set_cons_succ])
  refine wpAnyH_take (i := 10) (v := ?_) rfl (by kernel_rfl) (by kernel_rfl) (by kernel_rfl) (fun _ _ _ h => h) (Or.inl ⟨by rfl, ?_⟩) (by assumption) ?_
  rotate_left 1
  (intro w hSw; (try dsimp only at hSw); go_simp; try with_reducible rfl)
  (try simp only [List.getElem_toArray, List.getElem_cons_succ, List.getElem_cons_zero, Act.put, List.setIfInBounds_toArray, List.set_cons_zero, List.set_cons_succ])
  refine wpAnyH_ready (rs := [11]) (by kernel_rfl) (by simp) ?_
  refine AllReadyH.cons rfl (fun K hK => ?_) AllReadyH.nil
  (refine step_store_row rfl 29 _ _ rfl (w.heap.size + 1) (cells6 (Y) true (.slice q9 (Y).l.length c9)) (by kernel_rfl) (by kernel_rfl) 29 (cells6 zeroT false (.slice none 0 0)) hn19 (size69 _ _ _) (by kernel_rfl) (by kernel_rfl) ?_)
  refine hK.out _ _ ?_ (fun hHeld => ?_)
  · (try dsimp only); (first | with_reducible exact hS20 | with_reducible exact hS19 | with_reducible exact hS5 | with_reducible exact hS3 | with_reducible exact hS1 | exact hS9 | exact hS0)
  clear hK K
  (try simp only [List.getElem_toArray, List.getElem_cons_succ, List.getElem_cons_zero, Act.put])
  refine wpAnyH_done (by kernel_rfl) ?_ _
  go_wp2_with fail
  exact bodyPost_ret (v := .agg (cells6 (Y) true (.slice q9 (Y).l.length c9))) (results_cell_row Tryz.results9 _ _ (w.heap.size + 1) 29 (cells6 (Y) true (.slice q9 (Y).l.length c9)) (0, 0) _ rfl hr20 Tryz.underlying29 rfl (size69 _ _ _)) rfl ⟨_, rfl, hy20, hb20⟩
end Go.Proofs.YtgliogfggajfgaaGreatDoor
