/-
  pleachlaw10.MatchOne holds. Conditions: the trees lie as 'TrV' says, the names as 'Binds'; the table of letters is as it was laid.
-/
import Derived.Test.YtjnmdbfijdnaiaaGreatDoorLw2
namespace Go.Proofs.YtjnmdbfijdnaiaaGreatDoor
open Go.RowKit

theorem same_refl (x : Tr) : x.same x = true := by
  induction x using Tr.ind with
  | h x ih =>
    rw [same_eq]
    have key : ∀ l : List Tr, (∀ y ∈ l, y ∈ x.l) → Tr.same.samel l l = true := by
      intro l
      induction l with
      | nil => intro _; rfl
      | cons a r ihr => intro h; rw [Tr.same.samel, ih a (h a (by simp)), ihr fun y hy => h y (List.mem_cons_of_mem _ hy)]; rfl
    rw [key x.l fun _ h => h]
    simp
theorem sameB_refl : ∀ l : List Bd, sameB l l = true
  | [] => rfl
  | b :: r => by rw [sameB, sameB_refl r, same_refl]; simp

set_option maxHeartbeats 8000000 in
set_option maxRecDepth 100000 in
theorem matchOne_any {w : World} {p x : Tr} {l : List Bd} {pv xv v : Value} (hL : Letters w) (hp : TrV (fun _ => True) w p pv) (hx : TrV (fun _ => True) w x xv) (hl : Binds (fun _ => True) w v l) :
    Calls Tryz.prog 3 #[.agg #[.int .i8 p.k, .int .i64 p.n, .string p.s, .string p.t, pv], .agg #[.int .i8 x.k, .int .i64 x.n, .string x.s, .string x.t, xv], v] w fun e w' => e = .returned (.bool true) ∧ Below w.heap.size w w' := by
  obtain ⟨p1, c1, rfl⟩ := hp.kids.slice
  obtain ⟨p2, c2, rfl⟩ := hx.kids.slice
  obtain ⟨pl, cl, rfl⟩ := hl.slice
  obtain ⟨n1, n2, hb1, hz1⟩ := two_new w (.cells #[.int .i8 p.k, .int .i64 p.n, .string p.s, .string p.t, .slice p1 p.l.length c1] 25) (.cells #[.int .i8 x.k, .int .i64 x.n, .string x.s, .string x.t, .slice p2 x.l.length c2] 28)
  obtain ⟨a0, a1, a2, a3, a4⟩ := node_heap n1
  obtain ⟨b0, b1, b2, b3, b4⟩ := node_heap n2
  simp only [Nat.zero_add] at a1 a2 a3 a4 b1 b2 b3 b4
  clear n1 n2
  have HL := Lib.hid (hL.under hb1)
  have HP := Lib.hid (hp.below hb1)
  have HX := Lib.hid (hx.below hb1)
  have HB := Lib.hid (hl.under hb1)
  clear hL hp hx hl
  go_enter Tryz.func3, Tryz.ntmps3
  go_upto_region 1 with fail
  generalize (w.alloc (.cells #[.int .i8 p.k, .int .i64 p.n, .string p.s, .string p.t, .slice p1 p.l.length c1] 25)).alloc (.cells #[.int .i8 x.k, .int .i64 x.n, .string x.s, .string x.t, .slice p2 x.l.length c2] 28) = w1 at hb1 hz1 a0 a1 a2 a3 a4 b0 b1 b2 b3 b4 HL HP HX HB ⊢
  clear hz1
  have hmv : ∀ W : World, Below w1.heap.size w1 W → (W.cell? ⟨w.heap.size, 0, none⟩ = some (.int .i8 p.k) ∧ W.cell? ⟨w.heap.size, 1, none⟩ = some (.int .i64 p.n) ∧ W.cell? ⟨w.heap.size, 2, none⟩ = some (.string p.s) ∧ W.cell? ⟨w.heap.size, 3, none⟩ = some (.string p.t) ∧ W.cell? ⟨w.heap.size, 4, none⟩ = some (.slice p1 p.l.length c1)) ∧
      (W.cell? ⟨w.heap.size + 1, 0, none⟩ = some (.int .i8 x.k) ∧ W.cell? ⟨w.heap.size + 1, 1, none⟩ = some (.int .i64 x.n) ∧ W.cell? ⟨w.heap.size + 1, 2, none⟩ = some (.string x.s) ∧ W.cell? ⟨w.heap.size + 1, 3, none⟩ = some (.string x.t) ∧ W.cell? ⟨w.heap.size + 1, 4, none⟩ = some (.slice p2 x.l.length c2)) := by
    intro W hb
    have f : ∀ g o u, w1.cell? ⟨g, o, none⟩ = some u → W.cell? ⟨g, o, none⟩ = some u := fun g o u h => (hb.cell (p := ⟨g, o, none⟩) (cell_block h)).trans h
    exact ⟨⟨f _ _ _ a0, f _ _ _ a1, f _ _ _ a2, f _ _ _ a3, f _ _ _ a4⟩, f _ _ _ b0, f _ _ _ b1, f _ _ _ b2, f _ _ _ b3, f _ _ _ b4⟩
  have cN := greatN_any HP.out
  have cT := fun (W : World) (hb : Below w1.heap.size w1 W) => greatT_any (HX.out.below hb)
  have cB := fun (W : World) (hb : Below w1.heap.size w1 W) => greatL_any (HB.out.under hb)
  have cW := fun (W : World) (hb : Below w1.heap.size w1 W) => wakes_any (HL.out.under hb)
  generalize decide (8192 ≤ p.sz 8192) = g1 at cN
  generalize decide (1024 ≤ x.sz 1024) = g2 at cT
  generalize greatB l = g3 at cB
  cases g1
  rotate_left 1
  · clear hmv cT cB
    go_wp2_with (first
      | (go_at_call 5; refine cN.mono ?_; rintro e w5 ⟨rfl, hb5⟩)
      | (go_at_call 8; refine (cW _ hb5).mono ?_; rintro e w6 ⟨rfl, hb6⟩))
    go_ret
    exact ⟨rfl, hb1.trans ((hb5.trans (hb6.mono hb5.size)).mono hb1.size)⟩
  cases g2
  rotate_left 1
  · clear cB
    go_wp2_with (first
      | (go_at_call 5; refine cN.mono ?_; rintro e w5 ⟨rfl, hb5⟩; obtain ⟨⟨x0, x1, x2, x3, x4⟩, y0, y1, y2, y3, y4⟩ := hmv _ hb5)
      | (go_at_call 6; refine (cT _ hb5).mono ?_; rintro e w7 ⟨rfl, hb7⟩; have hB7 := hb5.trans (hb7.mono hb5.size))
      | (go_at_call 8; refine (cW _ hB7).mono ?_; rintro e w6 ⟨rfl, hb6⟩))
    go_ret
    exact ⟨rfl, hb1.trans ((hB7.trans (hb6.mono hB7.size)).mono hb1.size)⟩
  cases g3
  rotate_left 1
  · go_wp2_with (first
      | (go_at_call 5; refine cN.mono ?_; rintro e w5 ⟨rfl, hb5⟩; obtain ⟨⟨x0, x1, x2, x3, x4⟩, y0, y1, y2, y3, y4⟩ := hmv _ hb5)
      | (go_at_call 6; refine (cT _ hb5).mono ?_; rintro e w7 ⟨rfl, hb7⟩; have hB7 := hb5.trans (hb7.mono hb5.size))
      | (go_at_call 7; refine (cB _ hB7).mono ?_; rintro e w8 ⟨rfl, hb8⟩; have hB8 := hB7.trans (hb8.mono hB7.size))
      | (go_at_call 8; refine (cW _ hB8).mono ?_; rintro e w6 ⟨rfl, hb6⟩))
    go_ret
    exact ⟨rfl, hb1.trans ((hB8.trans (hb6.mono hB8.size)).mono hb1.size)⟩
  have cM := fun (W : World) (hb : Below w1.heap.size w1 W) => mmatch_any (F := fun _ => True) ⟨HL.out.under hb, fun _ _ => trivial, HP.out.below hb, HX.out.below hb, HB.out.under hb⟩
  have cR := fun (W : World) (hb : Below w1.heap.size w1 W) => rmatch_any (F := fun _ => True) ⟨HL.out.under hb, fun _ _ => trivial, HP.out.below hb, HX.out.below hb, HB.out.under hb⟩
  generalize allS [p] [x] l = q at cM cR
  have cMay := fun (W : World) (hb : Below w1.heap.size w1 W) => bmay_any (HL.out.under hb) (HB.out.under hb)
  have cRay := fun (W : World) (hb : Below w1.heap.size w1 W) => rbmay_any (HB.out.under hb)
  generalize mayB l = my at cMay cRay
  obtain ⟨l9, ok9, er9⟩ := q
  go_upto_region 5 with (first
      | (go_at_call 5; refine cN.mono ?_; rintro e w5 ⟨rfl, hb5⟩; obtain ⟨⟨x0, x1, x2, x3, x4⟩, y0, y1, y2, y3, y4⟩ := hmv _ hb5)
      | (go_at_call 6; refine (cT _ hb5).mono ?_; rintro e w7 ⟨rfl, hb7⟩; have hB7 := hb5.trans (hb7.mono hb5.size))
      | (go_at_call 7; refine (cB _ hB7).mono ?_; rintro e w8 ⟨rfl, hb8⟩; have hB8 := hB7.trans (hb8.mono hB7.size); obtain ⟨⟨u0, u1, u2, u3, u4⟩, t0, t1, t2, t3, t4⟩ := hmv _ hB8)
      | (go_at_call 9; refine (cM _ hB8).mono ?_; rintro e w9 ⟨v9, l9', ok9', er9', rfl, hl9, hb9, hq9⟩; have hB9 := hB8.trans (hb9.mono hB8.size); obtain ⟨⟨s0, s1, s2, s3, s4⟩, r0, r1, r2, r3, r4⟩ := hmv _ hB9; cases hq9)
      | (go_at_call 10; refine (cR _ hB9).mono ?_; rintro e w10 ⟨v10, l10', ok10', er10', rfl, hl10, hb10, hq10⟩; have hB10 := hB9.trans (hb10.mono hB9.size); cases hq10))
  have cS := bsame_any (hl9.under hb10) hl10
  rw [sameB_refl] at cS
  cases ok9
  all_goals
    go_wp2_with (first
      | (go_at_call 11; refine cS.mono ?_; rintro e w11 ⟨rfl, hb11⟩; have hB11 := hB10.trans (hb11.mono hB10.size))
      | (go_at_call 12; refine (cMay _ hB11).mono ?_; rintro e w12 ⟨rfl, hb12⟩; have hB12 := hB11.trans (hb12.mono hB11.size))
      | (go_at_call 13; refine (cRay _ hB12).mono ?_; rintro e w13 ⟨rfl, hb13⟩; have hB13 := hB12.trans (hb13.mono hB12.size))
      | (go_at_call 8; refine (cW _ hB13).mono ?_; rintro e w6 ⟨rfl, hb6⟩))
    go_ret
    exact ⟨by simp, hb1.trans ((hB13.trans (hb6.mono hB13.size)).mono hb1.size)⟩
end Go.Proofs.YtjnmdbfijdnaiaaGreatDoor
