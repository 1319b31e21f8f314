/-
  pleachref17.is; mail.Users, pleachref17.Users. Conditions: the trees lie as 'TrV' says, the items as 'Items'.
-/
import Derived.Test.YtlhobpknflobgaaGreatDoorMl2
import Derived.Deep.RegionHeld3
namespace Go.Proofs.YtlhobpknflobgaaGreatDoor
open Go.RowKit

set_option maxHeartbeats 8000000 in
set_option maxRecDepth 100000 in
theorem ris17_any {F G : Nat → Prop} {w : World} {x t : Tr} {sv tv : Value} {o : Bool} {tag : ByteArray} (hx : TrV F w x sv) (ht : TrV G w t tv) :
    Calls Tryz.prog 88 #[.agg #[.int .i8 x.k, .int .i64 x.n, .string x.s, .string x.t, sv, .bool o], .string tag, .agg #[.int .i8 t.k, .int .i64 t.n, .string t.s, .string t.t, tv]] w fun e w' => e = .returned (.bool (isB x tag t)) ∧ Below w.heap.size w w' := by
  obtain ⟨p1, c1, rfl⟩ := hx.kids.slice
  obtain ⟨p2, c2, rfl⟩ := ht.kids.slice
  obtain ⟨n1, n2, hb1, hz1⟩ := two_new w (.cells #[.int .i8 x.k, .int .i64 x.n, .string x.s, .string x.t, .slice p1 x.l.length c1, .bool o] 65) (.cells #[.int .i8 t.k, .int .i64 t.n, .string t.s, .string t.t, .slice p2 t.l.length c2] 29)
  obtain ⟨⟨a0, a1, a2, a3, a4⟩, a5⟩ := item_heap n1
  obtain ⟨b0, b1, b2, b3, b4⟩ := node_heap n2
  simp only [Nat.zero_add] at a1 a2 a3 a4 b1 b2 b3 b4
  have hx1 := hx.below hb1
  have ht1 := ht.below hb1
  have hlen : x.l.length ≤ 2199023255552 := hx.kids.len
  have hI : isB x tag t = (x.k == 5 && (decide (2 ≤ (x.l.length : Int)) && (((x.l.getD 0 zeroT).k == 1 && (x.l.getD 0 zeroT).s.toList == tag.toList) && (x.l.getD 1 zeroT).same t))) := rfl
  have HI := Lib.hid hI
  clear hx ht n1 n2 hI
  go_enter Tryz.func88, Tryz.ntmps88
  go_upto_region 1 with fail
  generalize (w.alloc (.cells #[.int .i8 x.k, .int .i64 x.n, .string x.s, .string x.t, .slice p1 x.l.length c1, .bool o] 65)).alloc (.cells #[.int .i8 t.k, .int .i64 t.n, .string t.s, .string t.t, .slice p2 t.l.length c2] 29) = w1 at hb1 hz1 a0 a1 a2 a3 a4 a5 b0 b1 b2 b3 b4 hx1 ht1 ⊢
  cases e0 : (x.k == 5)
  · have HE : Hid (isB x tag t = false) := by unfold Hid; rw [HI.out, e0]; rfl
    go_quiet (fail)
    go_wp2_with fail
    go_ret
    exact ⟨by rw [HE.out]; rfl, below_drewN hb1 _⟩
  cases e1 : decide (2 ≤ (x.l.length : Int))
  · have HE : Hid (isB x tag t = false) := by unfold Hid; rw [HI.out, e0, e1]; rfl
    go_quiet (fail)
    go_wp2_with fail
    go_ret
    exact ⟨by rw [HE.out]; rfl, below_drewN hb1 _⟩
  have hl2 : 2 ≤ x.l.length := by have := of_decide_eq_true e1; omega
  obtain ⟨g, q, kv0, rfl, _, hn0, hk0⟩ := hx1.kids.at (show 0 < x.l.length by omega)
  obtain ⟨g', q', kv1, hp', _, hn1, hk1⟩ := hx1.kids.at (show 1 < x.l.length by omega)
  cases hp'
  have hg0 : x.l.getD 0 zeroT = x.l[0] := by simp [show 0 < x.l.length by omega]
  have hg1 : x.l.getD 1 zeroT = x.l[1] := by simp [show 1 < x.l.length by omega]
  obtain ⟨c0, c1', c2', c3, c4⟩ := hn0
  obtain ⟨d0, d1, d2, d3, d4⟩ := hn1
  simp only [Nat.zero_mul, Nat.one_mul, Nat.add_zero] at c0 c1' c2' c3 c4 d0 d1 d2 d3 d4
  obtain ⟨p4, c4', rfl⟩ := hk1.kids.slice
  obtain ⟨p3, c3', rfl⟩ := hk0.kids.slice
  have h0l : (0 : Int) < x.l.length := by omega
  have h1l : (1 : Int) < x.l.length := by omega
  have k0 : 0 < x.l.length := by omega
  have k1 : 1 < x.l.length := by omega
  have k2 : ¬ x.l = [] := by intro h; rw [h] at k0; simp at k0
  have hbd : Below w1.heap.size w1 (w1.drewN 1) := below_drewN (Below.refl _ _) 1
  have HT1 := Lib.hid ht1
  have HK1 := Lib.hid hk1
  have hE : isB x tag t = (((x.l[0]'k0).k == 1 && (x.l[0]'k0).s.toList == tag.toList) && (x.l[1]'k1).same t) := by rw [HI.out, e0, e1, hg0, hg1]; rfl
  have HE := Lib.hid hE
  clear hg0 hg1 hk0 hk1 ht1 hx1 hE HI
  generalize x.l[0]'k0 = u0 at *
  generalize x.l[1]'k1 = u1 at *
  have hS : ∀ W : World, Below w1.heap.size w1 W → W.cell? ⟨w.heap.size, 0, none⟩ = some (.int .i8 x.k) ∧ W.cell? ⟨w.heap.size, 4, none⟩ = some (.slice (some ⟨g, q, none⟩) x.l.length c1) ∧
      (W.cell? ⟨w.heap.size + 1, 0, none⟩ = some (.int .i8 t.k) ∧ W.cell? ⟨w.heap.size + 1, 1, none⟩ = some (.int .i64 t.n) ∧ W.cell? ⟨w.heap.size + 1, 2, none⟩ = some (.string t.s) ∧ W.cell? ⟨w.heap.size + 1, 3, none⟩ = some (.string t.t) ∧ W.cell? ⟨w.heap.size + 1, 4, none⟩ = some (.slice p2 t.l.length c2)) ∧
      (W.cell? ⟨g, q, none⟩ = some (.int .i8 u0.k) ∧ W.cell? ⟨g, q + 1, none⟩ = some (.int .i64 u0.n) ∧ W.cell? ⟨g, q + 2, none⟩ = some (.string u0.s) ∧ W.cell? ⟨g, q + 3, none⟩ = some (.string u0.t) ∧ W.cell? ⟨g, q + 4, none⟩ = some (.slice p3 u0.l.length c3')) ∧
      (W.cell? ⟨g, q + 5, none⟩ = some (.int .i8 u1.k) ∧ W.cell? ⟨g, q + 5 + 1, none⟩ = some (.int .i64 u1.n) ∧ W.cell? ⟨g, q + 5 + 2, none⟩ = some (.string u1.s) ∧ W.cell? ⟨g, q + 5 + 3, none⟩ = some (.string u1.t) ∧ W.cell? ⟨g, q + 5 + 4, none⟩ = some (.slice p4 u1.l.length c4')) := by
    intro W hb
    have f : ∀ g o u, w1.cell? ⟨g, o, none⟩ = some u → W.cell? ⟨g, o, none⟩ = some u := fun g o u h => (hb.cell (p := ⟨g, o, none⟩) (cell_block h)).trans h
    exact ⟨f _ _ _ a0, f _ _ _ a4, ⟨f _ _ _ b0, f _ _ _ b1, f _ _ _ b2, f _ _ _ b3, f _ _ _ b4⟩, ⟨f _ _ _ c0, f _ _ _ c1', f _ _ _ c2', f _ _ _ c3, f _ _ _ c4⟩, ⟨f _ _ _ d0, f _ _ _ d1, f _ _ _ d2, f _ _ _ d3, f _ _ _ d4⟩⟩
  have hS0 := hS w1 (Below.refl _ _)
  have cA := fun W : World => isAtom_any W u0 (.slice p3 u0.l.length c3') tag
  cases e2 : (u0.k == 1 && u0.s.toList == tag.toList)
  · rw [e2] at cA
    have HE2 : Hid (isB x tag t = false) := by unfold Hid; rw [HE.out, e2]; rfl
    clear a0 a1 a2 a3 a4 a5 b0 b1 b2 b3 b4 c0 c1' c2' c3 c4 d0 d1 d2 d3 d4
    refine wp_region_held_drew (S := (fun W => W.cell? ⟨w.heap.size, 0, none⟩ = some (.int .i8 x.k) ∧ W.cell? ⟨w.heap.size, 4, none⟩ = some (.slice (some ⟨g, q, none⟩) x.l.length c1) ∧ (W.cell? ⟨w.heap.size + 1, 0, none⟩ = some (.int .i8 t.k) ∧ W.cell? ⟨w.heap.size + 1, 1, none⟩ = some (.int .i64 t.n) ∧ W.cell? ⟨w.heap.size + 1, 2, none⟩ = some (.string t.s) ∧ W.cell? ⟨w.heap.size + 1, 3, none⟩ = some (.string t.t) ∧ W.cell? ⟨w.heap.size + 1, 4, none⟩ = some (.slice p2 t.l.length c2)) ∧ (W.cell? ⟨g, q, none⟩ = some (.int .i8 u0.k) ∧ W.cell? ⟨g, q + 1, none⟩ = some (.int .i64 u0.n) ∧ W.cell? ⟨g, q + 2, none⟩ = some (.string u0.s) ∧ W.cell? ⟨g, q + 3, none⟩ = some (.string u0.t) ∧ W.cell? ⟨g, q + 4, none⟩ = some (.slice p3 u0.l.length c3')) ∧ (W.cell? ⟨g, q + 5, none⟩ = some (.int .i8 u1.k) ∧ W.cell? ⟨g, q + 5 + 1, none⟩ = some (.int .i64 u1.n) ∧ W.cell? ⟨g, q + 5 + 2, none⟩ = some (.string u1.s) ∧ W.cell? ⟨g, q + 5 + 3, none⟩ = some (.string u1.t) ∧ W.cell? ⟨g, q + 5 + 4, none⟩ = some (.slice p4 u1.l.length c4')))) (by kernel_rfl) ?_ (fun hHeld => ?_)
    · (try dsimp only); (first | exact hS0 | exact hS1)
    refine wpAnyH_take (i := 0) (v := ?_) rfl (by kernel_rfl) (by kernel_rfl) (by kernel_rfl) (fun _ _ _ h => h) (Or.inl ⟨by rfl, ?_⟩) (by assumption) ?_
    rotate_left 1
    (intro w hSw; (try dsimp only at hSw); go_simp; try with_reducible rfl)
    (try simp only [List.getElem_toArray, List.getElem_cons_zero, Act.put, List.setIfInBounds_toArray, List.set_cons_zero, List.set_cons_succ])
    refine wpAnyH_take (i := 1) (v := ?_) rfl (by kernel_rfl) (by kernel_rfl) (by kernel_rfl) (fun _ _ _ h => h) (Or.inl ⟨by rfl, ?_⟩) (by assumption) ?_
    rotate_left 1
    (intro w hSw; (try dsimp only at hSw); go_simp; try with_reducible rfl)
    (try simp only [List.getElem_toArray, List.getElem_cons_succ, List.getElem_cons_zero, Act.put, List.setIfInBounds_toArray, List.set_cons_zero, List.set_cons_succ])
    refine wpAnyH_take (i := 2) (v := ?_) rfl (by kernel_rfl) (by kernel_rfl) (by kernel_rfl) (fun _ _ _ h => h) (Or.inl ⟨by rfl, ?_⟩) (by assumption) ?_
    rotate_left 1
    (intro w hSw; (try dsimp only at hSw); go_simp; try with_reducible rfl)
    (try simp only [List.getElem_toArray, List.getElem_cons_succ, List.getElem_cons_zero, Act.put, List.setIfInBounds_toArray, List.set_cons_zero, List.set_cons_succ])
    refine wpAnyH_take (i := 3) (v := ?_) rfl (by kernel_rfl) (by kernel_rfl) (by kernel_rfl) (fun _ _ _ h => h) (Or.inl ⟨by rfl, ?_⟩) (by assumption) ?_
    rotate_left 1
    (intro w hSw; (try dsimp only at hSw); go_simp; try with_reducible rfl)
    (try simp only [List.getElem_toArray, List.getElem_cons_succ, List.getElem_cons_zero, Act.put, List.setIfInBounds_toArray, List.set_cons_zero, List.set_cons_succ])
    refine wpAnyH_take (i := 4) (v := ?_) rfl (by kernel_rfl) (by kernel_rfl) (by kernel_rfl) (fun _ _ _ h => h) (Or.inl ⟨by rfl, ?_⟩) (by assumption) ?_
    rotate_left 1
    (intro w hSw; (try dsimp only at hSw); go_simp; try with_reducible rfl)
    (try simp only [List.getElem_toArray, List.getElem_cons_succ, List.getElem_cons_zero, Act.put, List.setIfInBounds_toArray, List.set_cons_zero, List.set_cons_succ])
    refine wpAnyH_take (i := 5) (v := ?_) rfl (by kernel_rfl) (by kernel_rfl) (by kernel_rfl) (fun _ _ _ h => h) (Or.inl ⟨by rfl, ?_⟩) (by assumption) ?_
    rotate_left 1
    (intro w hSw; (try dsimp only at hSw); go_simp; try with_reducible rfl)
    (try simp only [List.getElem_toArray, List.getElem_cons_succ, List.getElem_cons_zero, Act.put, List.setIfInBounds_toArray, List.set_cons_zero, List.set_cons_succ])
    refine wpAnyH_take (i := 6) (v := ?_) rfl (by kernel_rfl) (by kernel_rfl) (by kernel_rfl) (fun _ _ _ h => h) (Or.inl ⟨by rfl, ?_⟩) (by assumption) ?_
    rotate_left 1
    (intro w hSw; (try dsimp only at hSw); go_simp; try with_reducible rfl)
    (try simp only [List.getElem_toArray, List.getElem_cons_succ, List.getElem_cons_zero, Act.put, List.setIfInBounds_toArray, List.set_cons_zero, List.set_cons_succ])
    refine wpAnyH_take (i := 7) (v := ?_) rfl (by kernel_rfl) (by kernel_rfl) (by kernel_rfl) (fun _ _ _ h => h) (Or.inl ⟨by rfl, ?_⟩) (by assumption) ?_
    rotate_left 1
    (intro w hSw; (try dsimp only at hSw); go_simp; try with_reducible rfl)
    (try simp only [List.getElem_toArray, List.getElem_cons_succ, List.getElem_cons_zero, Act.put, List.setIfInBounds_toArray, List.set_cons_zero, List.set_cons_succ])
    refine wpAnyH_take (i := 8) (v := ?_) rfl (by kernel_rfl) (by kernel_rfl) (by kernel_rfl) (fun _ _ _ h => h) (Or.inl ⟨by rfl, ?_⟩) (by assumption) ?_
    rotate_left 1
    (intro w hSw; (try dsimp only at hSw); go_simp; try with_reducible rfl)
    (try simp only [List.getElem_toArray, List.getElem_cons_succ, List.getElem_cons_zero, Act.put, List.setIfInBounds_toArray, List.set_cons_zero, List.set_cons_succ])
    refine wpAnyH_take (i := 9) (v := ?_) rfl (by kernel_rfl) (by kernel_rfl) (by kernel_rfl) (fun _ _ _ h => h) (Or.inl ⟨by rfl, ?_⟩) (by assumption) ?_
    rotate_left 1
    (intro w hSw; (try dsimp only at hSw); go_simp; try with_reducible rfl)
    (try simp only [List.getElem_toArray, List.getElem_cons_succ, List.getElem_cons_zero, Act.put, List.setIfInBounds_toArray, List.set_cons_zero, List.set_cons_succ])
    refine wpAnyH_take (i := 10) (v := ?_) rfl (by kernel_rfl) (by kernel_rfl) (by kernel_rfl) (fun _ _ _ h => h) (Or.inl ⟨by rfl, ?_⟩) (by assumption) ?_
    rotate_left 1
    (intro w hSw; (try dsimp only at hSw); go_simp; try with_reducible rfl)
    (try simp only [List.getElem_toArray, List.getElem_cons_succ, List.getElem_cons_zero, Act.put, List.setIfInBounds_toArray, List.set_cons_zero, List.set_cons_succ])
    refine wpAnyH_take (i := 11) (v := ?_) rfl (by kernel_rfl) (by kernel_rfl) (by kernel_rfl) (fun _ _ _ h => h) (Or.inl ⟨by rfl, ?_⟩) (by assumption) ?_
    rotate_left 1
    (intro w hSw; (try dsimp only at hSw); go_simp; try with_reducible rfl)
    (try simp only [List.getElem_toArray, List.getElem_cons_succ, List.getElem_cons_zero, Act.put, List.setIfInBounds_toArray, List.set_cons_zero, List.set_cons_succ])
    refine wpAnyH_take (i := 12) (v := ?_) rfl (by kernel_rfl) (by kernel_rfl) (by kernel_rfl) (fun _ _ _ h => h) (Or.inl ⟨by rfl, ?_⟩) (by assumption) ?_
    rotate_left 1
    (intro w hSw; (try dsimp only at hSw); go_simp; try with_reducible rfl)
    (try simp only [List.getElem_toArray, List.getElem_cons_succ, List.getElem_cons_zero, Act.put, List.setIfInBounds_toArray, List.set_cons_zero, List.set_cons_succ])
    refine wpAnyH_take (i := 13) (v := ?_) rfl (by kernel_rfl) (by kernel_rfl) (by kernel_rfl) (fun _ _ _ h => h) (Or.inl ⟨by rfl, ?_⟩) (by assumption) ?_
    rotate_left 1
    (intro w hSw; (try dsimp only at hSw); go_simp; try with_reducible rfl)
    (try simp only [List.getElem_toArray, List.getElem_cons_succ, List.getElem_cons_zero, Act.put, List.setIfInBounds_toArray, List.set_cons_zero, List.set_cons_succ])
    refine wpAnyH_take (i := 14) (v := ?_) rfl (by kernel_rfl) (by kernel_rfl) (by kernel_rfl) (fun _ _ _ h => h) (Or.inl ⟨by rfl, ?_⟩) (by assumption) ?_
    rotate_left 1
    (intro w hSw; (try dsimp only at hSw); go_simp; try with_reducible rfl)
    (try simp only [List.getElem_toArray, List.getElem_cons_succ, List.getElem_cons_zero, Act.put, List.setIfInBounds_toArray, List.set_cons_zero, List.set_cons_succ])
    refine wpAnyH_take (i := 15) (v := ?_) rfl (by kernel_rfl) (by kernel_rfl) (by kernel_rfl) (fun _ _ _ h => h) (Or.inl ⟨by rfl, ?_⟩) (by assumption) ?_
    rotate_left 1
    (intro w hSw; (try dsimp only at hSw); go_simp; try with_reducible rfl)
    (try simp only [List.getElem_toArray, List.getElem_cons_succ, List.getElem_cons_zero, Act.put, List.setIfInBounds_toArray, List.set_cons_zero, List.set_cons_succ])
    refine wpAnyH_take (i := 16) (v := ?_) rfl (by kernel_rfl) (by kernel_rfl) (by kernel_rfl) (fun _ _ _ h => h) (Or.inl ⟨by rfl, ?_⟩) (by assumption) ?_
    rotate_left 1
    (intro w hSw; (try dsimp only at hSw); go_simp; try with_reducible rfl)
    (try simp only [List.getElem_toArray, List.getElem_cons_succ, List.getElem_cons_zero, Act.put, List.setIfInBounds_toArray, List.set_cons_zero, List.set_cons_succ])
    refine wpAnyH_take (i := 17) (v := ?_) rfl (by kernel_rfl) (by kernel_rfl) (by kernel_rfl) (fun _ _ _ h => h) (Or.inl ⟨by rfl, ?_⟩) (by assumption) ?_
    rotate_left 1
    (intro w hSw; (try dsimp only at hSw); go_simp; try with_reducible rfl)
    (try simp only [List.getElem_toArray, List.getElem_cons_succ, List.getElem_cons_zero, Act.put, List.setIfInBounds_toArray, List.set_cons_zero, List.set_cons_succ])
    refine wpAnyH_ready (rs := [18]) (by kernel_rfl) (by simp) ?_
    refine AllReadyH.cons rfl (fun K hK => ?_) AllReadyH.nil
    go_simp
    go_wp2_with (go_at_call 132; refine (cA _).mono ?_; rintro e w5 ⟨rfl, hb5⟩; have hB5 := hbd.trans (hb5.mono hbd.size); have hS1 := hS _ hB5)
    refine hK.out _ _ ?_ (fun hHeld => ?_)
    · (try dsimp only); (first | exact hS0 | exact hS1)
    clear hK K
    (try simp only [List.getElem_toArray, List.getElem_cons_succ, List.getElem_cons_zero, Act.put, List.setIfInBounds_toArray, List.set_cons_zero, List.set_cons_succ])
    refine wpAnyH_take (i := 19) (v := ?_) rfl (by kernel_rfl) (by kernel_rfl) (by kernel_rfl) (fun _ _ _ h => h) (Or.inl ⟨by rfl, ?_⟩) (by assumption) ?_
    rotate_left 1
    (intro w hSw; (try dsimp only at hSw); go_simp; try with_reducible rfl)
    (try simp only [List.getElem_toArray, List.getElem_cons_succ, List.getElem_cons_zero, Act.put, List.setIfInBounds_toArray, List.set_cons_zero, List.set_cons_succ])
    refine wpAnyH_take (i := 20) (v := ?_) rfl (by kernel_rfl) (by kernel_rfl) (by kernel_rfl) (fun _ _ _ h => h) (Or.inl ⟨by rfl, ?_⟩) (by assumption) ?_
    rotate_left 1
    (intro w hSw; (try dsimp only at hSw); go_simp; try with_reducible rfl)
    (try simp only [List.getElem_toArray, List.getElem_cons_succ, List.getElem_cons_zero, Act.put, List.setIfInBounds_toArray, List.set_cons_zero, List.set_cons_succ])
    refine wpAnyH_take (i := 21) (v := undef) rfl (by kernel_rfl) (by kernel_rfl) (by kernel_rfl) (fun _ _ _ h => h) (Or.inr ⟨by rfl, rfl⟩) (by assumption) ?_
    (try simp only [List.getElem_toArray, List.getElem_cons_succ, List.getElem_cons_zero, Act.put, List.setIfInBounds_toArray, List.set_cons_zero, List.set_cons_succ])
    refine wpAnyH_take (i := 22) (v := undef) rfl (by kernel_rfl) (by kernel_rfl) (by kernel_rfl) (fun _ _ _ h => h) (Or.inr ⟨by rfl, rfl⟩) (by assumption) ?_
    (try simp only [List.getElem_toArray, List.getElem_cons_succ, List.getElem_cons_zero, Act.put, List.setIfInBounds_toArray, List.set_cons_zero, List.set_cons_succ])
    refine wpAnyH_take (i := 23) (v := undef) rfl (by kernel_rfl) (by kernel_rfl) (by kernel_rfl) (fun _ _ _ h => h) (Or.inr ⟨by rfl, rfl⟩) (by assumption) ?_
    (try simp only [List.getElem_toArray, List.getElem_cons_succ, List.getElem_cons_zero, Act.put, List.setIfInBounds_toArray, List.set_cons_zero, List.set_cons_succ])
    refine wpAnyH_take (i := 24) (v := undef) rfl (by kernel_rfl) (by kernel_rfl) (by kernel_rfl) (fun _ _ _ h => h) (Or.inr ⟨by rfl, rfl⟩) (by assumption) ?_
    (try simp only [List.getElem_toArray, List.getElem_cons_succ, List.getElem_cons_zero, Act.put, List.setIfInBounds_toArray, List.set_cons_zero, List.set_cons_succ])
    refine wpAnyH_take (i := 25) (v := undef) rfl (by kernel_rfl) (by kernel_rfl) (by kernel_rfl) (fun _ _ _ h => h) (Or.inr ⟨by rfl, rfl⟩) (by assumption) ?_
    (try simp only [List.getElem_toArray, List.getElem_cons_succ, List.getElem_cons_zero, Act.put, List.setIfInBounds_toArray, List.set_cons_zero, List.set_cons_succ])
    refine wpAnyH_take (i := 26) (v := undef) rfl (by kernel_rfl) (by kernel_rfl) (by kernel_rfl) (fun _ _ _ h => h) (Or.inr ⟨by rfl, rfl⟩) (by assumption) ?_
    (try simp only [List.getElem_toArray, List.getElem_cons_succ, List.getElem_cons_zero, Act.put, List.setIfInBounds_toArray, List.set_cons_zero, List.set_cons_succ])
    refine wpAnyH_take (i := 27) (v := undef) rfl (by kernel_rfl) (by kernel_rfl) (by kernel_rfl) (fun _ _ _ h => h) (Or.inr ⟨by rfl, rfl⟩) (by assumption) ?_
    (try simp only [List.getElem_toArray, List.getElem_cons_succ, List.getElem_cons_zero, Act.put, List.setIfInBounds_toArray, List.set_cons_zero, List.set_cons_succ])
    refine wpAnyH_take (i := 28) (v := ?_) rfl (by kernel_rfl) (by kernel_rfl) (by kernel_rfl) (fun _ _ _ h => h) (Or.inl ⟨by rfl, ?_⟩) (by assumption) ?_
    rotate_left 1
    (intro w hSw; (try dsimp only at hSw); go_simp; try with_reducible rfl)
    (try simp only [List.getElem_toArray, List.getElem_cons_succ, List.getElem_cons_zero, Act.put, List.setIfInBounds_toArray, List.set_cons_zero, List.set_cons_succ])
    refine wpAnyH_take (i := 29) (v := ?_) rfl (by kernel_rfl) (by kernel_rfl) (by kernel_rfl) (fun _ _ _ h => h) (Or.inl ⟨by rfl, ?_⟩) (by assumption) ?_
    rotate_left 1
    (intro w hSw; (try dsimp only at hSw); go_simp; try with_reducible rfl)
    (try simp only [List.getElem_toArray, List.getElem_cons_succ, List.getElem_cons_zero, Act.put, List.setIfInBounds_toArray, List.set_cons_zero, List.set_cons_succ])
    refine wpAnyH_done (by kernel_rfl) ?_ _
    go_wp2_with fail
    go_ret
    exact ⟨by rw [HE2.out]; rfl, hb1.trans (hB5.mono hb1.size)⟩
  · rw [e2] at cA
    have HE2 : Hid (isB x tag t = u1.same t) := by unfold Hid; rw [HE.out, e2]; rfl
    have cS := fun (W : World) (hb : Below w1.heap.size w1 W) => rsame_any u1 t W _ _ (HK1.out.below hb) (HT1.out.below hb)
    generalize u1.same t = sb at cS HE2
    clear a0 a1 a2 a3 a4 a5 b0 b1 b2 b3 b4 c0 c1' c2' c3 c4 d0 d1 d2 d3 d4
    go_region_held3 (fun W => W.cell? ⟨w.heap.size, 0, none⟩ = some (.int .i8 x.k) ∧ W.cell? ⟨w.heap.size, 4, none⟩ = some (.slice (some ⟨g, q, none⟩) x.l.length c1) ∧ (W.cell? ⟨w.heap.size + 1, 0, none⟩ = some (.int .i8 t.k) ∧ W.cell? ⟨w.heap.size + 1, 1, none⟩ = some (.int .i64 t.n) ∧ W.cell? ⟨w.heap.size + 1, 2, none⟩ = some (.string t.s) ∧ W.cell? ⟨w.heap.size + 1, 3, none⟩ = some (.string t.t) ∧ W.cell? ⟨w.heap.size + 1, 4, none⟩ = some (.slice p2 t.l.length c2)) ∧ (W.cell? ⟨g, q, none⟩ = some (.int .i8 u0.k) ∧ W.cell? ⟨g, q + 1, none⟩ = some (.int .i64 u0.n) ∧ W.cell? ⟨g, q + 2, none⟩ = some (.string u0.s) ∧ W.cell? ⟨g, q + 3, none⟩ = some (.string u0.t) ∧ W.cell? ⟨g, q + 4, none⟩ = some (.slice p3 u0.l.length c3')) ∧ (W.cell? ⟨g, q + 5, none⟩ = some (.int .i8 u1.k) ∧ W.cell? ⟨g, q + 5 + 1, none⟩ = some (.int .i64 u1.n) ∧ W.cell? ⟨g, q + 5 + 2, none⟩ = some (.string u1.s) ∧ W.cell? ⟨g, q + 5 + 3, none⟩ = some (.string u1.t) ∧ W.cell? ⟨g, q + 5 + 4, none⟩ = some (.slice p4 u1.l.length c4'))) (first | exact hS0 | exact hS1 | exact hS2) (first
      | (go_at_call 132; refine (cA _).mono ?_; rintro e w5 ⟨rfl, hb5⟩; have hB5 := hbd.trans (hb5.mono hbd.size); have hS1 := hS _ hB5)
      | (go_at_call 25; refine (cS _ hB5).mono ?_; rintro e w6 ⟨rfl, hb6⟩; have hB6 := hB5.trans (hb6.mono hB5.size); have hS2 := hS _ hB6))
    go_wp2_with fail
    go_ret
    exact ⟨by rw [HE2.out]; rfl, hb1.trans (hB6.mono hb1.size)⟩

/-- How many items are users'. -/
def usersB (l : List It) : Nat := l.countP fun x => !x.o
theorem users_take {l : List It} {k : Nat} (hk : k < l.length) : usersB (l.take (k + 1)) = usersB (l.take k) + if l[k].o then 0 else 1 := by
  unfold usersB
  rw [List.take_succ_eq_append_getElem hk, List.countP_append]
  cases h : l[k].o <;> simp [h]
theorem users_le (l : List It) : usersB l ≤ l.length := List.countP_le_length ..

set_option maxHeartbeats 2000000 in
set_option maxRecDepth 100000 in
theorem rusers_any {F : Nat → Prop} {w : World} {v : Value} {l : List It} (hl : Items F w v l) :
    Calls Tryz.prog 46 #[v] w fun e w' => e = .returned (.int .i64 (usersB l)) ∧ Below w.heap.size w w' := by
  have hlen : l.length ≤ 2199023255552 := hl.len
  obtain ⟨p, c, rfl⟩ := hl.slice
  have HL := Lib.hid hl
  clear hl
  go_enter Tryz.func46, Tryz.ntmps46
  go_wp2_with fail
  go_loopw [3, 4] (fun n i wr => ∃ k : Nat, k ≤ l.length ∧ i = .int .i64 k ∧ n = .int .i64 (usersB (l.take k)) ∧ wr = w) (fun _ i _ => l.length - (intOf i).toNat)
  case atStart => exact ⟨0, Nat.zero_le _, rfl, rfl, rfl⟩
  case round =>
    obtain ⟨k, hk, rfl, rfl, rfl⟩ := hrel
    by_cases hlt : k < l.length
    · obtain ⟨g, o, kv, rfl, _, _, hs0, _⟩ := HL.out.at hlt
      have hu := users_take hlt
      have hle := users_le (l.take k)
      have hle2 : (l.take k).length ≤ k := by simp; omega
      cases ho : l[k].o
      · rw [ho] at hs0 hu
        have HU := Lib.hid hu
        clear hu ho
        generalize usersB (l.take k) = m at *
        have hm : m ≤ k := by omega
        go_wp2
        go_roundw
        case rel => exact ⟨k + 1, hlt, by go_num, by rw [HU.out]; go_num, by first | rfl | trivial⟩
        case measure => simp [intOf]; omega
      · rw [ho] at hs0 hu
        have HU := Lib.hid hu
        clear hu ho
        go_wp2
        go_roundw
        case rel => exact ⟨k + 1, hlt, by go_num, by rw [HU.out]; rfl, by first | rfl | trivial⟩
        case measure => simp [intOf]; omega
    · have HE : Hid (usersB (l.take k) = usersB l) := by unfold Hid; rw [List.take_of_length_le (by omega)]
      go_wp2
      go_ret
      exact ⟨by rw [← HE.out]; rfl, Below.refl _ _⟩

set_option maxHeartbeats 2000000 in
set_option maxRecDepth 100000 in
theorem users_any {F : Nat → Prop} {w : World} {v : Value} {l : List It} (hl : Items F w v l) :
    Calls Tryz.prog 45 #[v] w fun e w' => e = .returned (.int .i64 (usersB l)) ∧ Below w.heap.size w w' := by
  have hlen : l.length ≤ 2199023255552 := hl.len
  obtain ⟨p, c, rfl⟩ := hl.slice
  have HL := Lib.hid hl
  clear hl
  go_enter Tryz.func45, Tryz.ntmps45
  go_wp2_with fail
  go_loopw [2, 7] (fun n i wr => ∃ k : Nat, k ≤ l.length ∧ i = .int .i64 k ∧ n = .int .i64 (usersB (l.take k)) ∧ Below w.heap.size w wr) (fun _ i _ => l.length - (intOf i).toNat)
  case atStart => exact ⟨0, Nat.zero_le _, rfl, rfl, Below.refl _ _⟩
  case round =>
    obtain ⟨k, hk, rfl, rfl, hbr⟩ := hrel
    by_cases hlt : k < l.length
    · obtain ⟨g, o, kv, rfl, _, ⟨a0, a1, a2, a3, a4⟩, hs0, hkid⟩ := (HL.out.under hbr).at hlt
      obtain ⟨p3, c3, rfl⟩ := hkid.kids.slice
      have hu := users_take hlt
      have hle := users_le (l.take k)
      have hle2 : (l.take k).length ≤ k := by simp; omega
      have hb3 := alloc_below wr (.cells #[.int .i8 l[k].t.k, .int .i64 l[k].t.n, .string l[k].t.s, .string l[k].t.t, .slice p3 l[k].t.l.length c3, .bool l[k].o] 65)
      obtain ⟨_, f5⟩ := item_heap (heap_new wr (.cells #[.int .i8 l[k].t.k, .int .i64 l[k].t.n, .string l[k].t.s, .string l[k].t.t, .slice p3 l[k].t.l.length c3, .bool l[k].o] 65))
      clear hkid
      cases ho : l[k].o
      · rw [ho] at hs0 hu f5 hb3
        have HU := Lib.hid hu
        clear hu ho
        generalize usersB (l.take k) = m at *
        have hm : m ≤ k := by omega
        go_wp2
        go_roundw
        case rel => exact ⟨k + 1, hlt, by go_num, by rw [HU.out]; go_num, hbr.trans (hb3.mono hbr.size)⟩
        case measure => simp [intOf]; omega
      · rw [ho] at hs0 hu f5 hb3
        have HU := Lib.hid hu
        clear hu ho
        go_wp2
        go_roundw
        case rel => exact ⟨k + 1, hlt, by go_num, by rw [HU.out]; rfl, hbr.trans (hb3.mono hbr.size)⟩
        case measure => simp [intOf]; omega
    · have HE : Hid (usersB (l.take k) = usersB l) := by unfold Hid; rw [List.take_of_length_le (by omega)]
      go_wp2
      go_ret
      exact ⟨by rw [← HE.out]; rfl, hbr⟩
end Go.Proofs.YtlhobpknflobgaaGreatDoor
