/-
  term.order, Compare. Conditions: the terms lie as 'TrV' says.
-/
import Derived.Test.YtjnmdbfijdnaiaaGreatDoorOrd
namespace Go.Proofs.YtjnmdbfijdnaiaaGreatDoor
open Go.RowKit

theorem orAt5 (w : World) (a b c d e : Int) (T : TypeId) : OrAt (w.alloc (.cells #[.int .i64 a, .int .i64 b, .int .i64 c, .int .i64 d, .int .i64 e] T)) w.heap.size [a, b, c, d, e] := by
  obtain ⟨h0, h1, h2, h3, h4⟩ := box5 w (.int .i64 a) (.int .i64 b) (.int .i64 c) (.int .i64 d) (.int .i64 e) T
  intro k hk
  match k, hk with
  | 0, _ => exact h0
  | 1, _ => exact h1
  | 2, _ => exact h2
  | 3, _ => exact h3
  | 4, _ => exact h4

set_option maxHeartbeats 4000000 in
set_option maxRecDepth 100000 in
theorem order_any {F G : Nat → Prop} (x : Tr) : OrdSays F G x := by
  induction x using Tr.ind with
  | h x ih =>
    intro y w sv tv hx hy
    obtain ⟨p, c, rfl⟩ := hx.kids.slice
    obtain ⟨p2, c2, rfl⟩ := hy.kids.slice
    obtain ⟨n1, n2, hb1, hz1⟩ := two_new w (.cells #[.int .i8 x.k, .int .i64 x.n, .string x.s, .string x.t, .slice p x.l.length c] 28) (.cells #[.int .i8 y.k, .int .i64 y.n, .string y.s, .string y.t, .slice p2 y.l.length c2] 28)
    have hx1 := hx.below hb1
    have hy1 := hy.below hb1
    have hlen : x.l.length ≤ 2199023255552 := hx.kids.len
    have hlen2 : y.l.length ≤ 2199023255552 := hy.kids.len
    obtain ⟨a0, a1, a2, a3, a4⟩ := node_heap n1
    obtain ⟨b0, b1, b2, b3, b4⟩ := node_heap n2
    simp only [Nat.zero_add] at a1 a2 a3 a4 b1 b2 b3 b4
    have hrel0 := ord_eq x y
    have IH := Lib.hid ih
    clear ih hx hy n1 n2
    cases e0 : (x.k == y.k)
    · have g0 : (x.k != y.k) = true := by simpa using e0
      rw [if_neg (by simpa using e0)] at hrel0
      have HR := Lib.hid hrel0
      clear hrel0 e0
      go_enter Tryz.func105, Tryz.ntmps105
      go_wp2_with (go_at_call 108; refine (cmp8_any _ _ _).mono ?_; rintro e w5 ⟨rfl, rfl⟩)
      go_ret
      exact ⟨by rw [HR.out]; rfl, hb1⟩
    have g0 : (x.k != y.k) = false := by simpa using e0
    rw [if_pos (by simpa using e0)] at hrel0
    have HR := Lib.hid hrel0
    clear hrel0 e0
    go_enter Tryz.func105, Tryz.ntmps105
    go_upto_region 3 with fail
    generalize (w.alloc (.cells #[.int .i8 x.k, .int .i64 x.n, .string x.s, .string x.t, .slice p x.l.length c] 28)).alloc (.cells #[.int .i8 y.k, .int .i64 y.n, .string y.s, .string y.t, .slice p2 y.l.length c2] 28) = w1 at hb1 hz1 hx1 hy1 a0 a1 a2 a3 a4 b0 b1 b2 b3 b4 ⊢
    have hmv : ∀ W : World, Below w1.heap.size w1 W → W.cell? ⟨w.heap.size, 1, none⟩ = some (.int .i64 x.n) ∧ W.cell? ⟨w.heap.size, 2, none⟩ = some (.string x.s) ∧ W.cell? ⟨w.heap.size, 3, none⟩ = some (.string x.t) ∧ W.cell? ⟨w.heap.size, 4, none⟩ = some (.slice p x.l.length c) ∧
        W.cell? ⟨w.heap.size + 1, 1, none⟩ = some (.int .i64 y.n) ∧ W.cell? ⟨w.heap.size + 1, 2, none⟩ = some (.string y.s) ∧ W.cell? ⟨w.heap.size + 1, 3, none⟩ = some (.string y.t) ∧ W.cell? ⟨w.heap.size + 1, 4, none⟩ = some (.slice p2 y.l.length c2) := fun W hb =>
      ⟨(hb.cell (p := ⟨w.heap.size, 1, none⟩) (cell_block a1)).trans a1, (hb.cell (p := ⟨w.heap.size, 2, none⟩) (cell_block a1)).trans a2, (hb.cell (p := ⟨w.heap.size, 3, none⟩) (cell_block a1)).trans a3, (hb.cell (p := ⟨w.heap.size, 4, none⟩) (cell_block a1)).trans a4,
        (hb.cell (p := ⟨w.heap.size + 1, 1, none⟩) (cell_block b1)).trans b1, (hb.cell (p := ⟨w.heap.size + 1, 2, none⟩) (cell_block b1)).trans b2, (hb.cell (p := ⟨w.heap.size + 1, 3, none⟩) (cell_block b1)).trans b3, (hb.cell (p := ⟨w.heap.size + 1, 4, none⟩) (cell_block b1)).trans b4⟩
    have hS0 := hmv w1 (Below.refl _ _)
    have hd : Below w1.heap.size w1 w1.drew := below_drewN (Below.refl _ _) 1
    have cR := fun W hb => rows_any (F := F) (G := G) (hx1.kids.under (w' := W) hb) (hy1.kids.under hb) IH.out
    clear a0 a1 a2 a3 a4 b0 b1 b2 b3 b4 g0 hx1 hy1
    go_region_held3 (fun W => W.cell? ⟨w.heap.size, 1, none⟩ = some (.int .i64 x.n) ∧ W.cell? ⟨w.heap.size, 2, none⟩ = some (.string x.s) ∧ W.cell? ⟨w.heap.size, 3, none⟩ = some (.string x.t) ∧ W.cell? ⟨w.heap.size, 4, none⟩ = some (.slice p x.l.length c) ∧ W.cell? ⟨w.heap.size + 1, 1, none⟩ = some (.int .i64 y.n) ∧ W.cell? ⟨w.heap.size + 1, 2, none⟩ = some (.string y.s) ∧ W.cell? ⟨w.heap.size + 1, 3, none⟩ = some (.string y.t) ∧ W.cell? ⟨w.heap.size + 1, 4, none⟩ = some (.slice p2 y.l.length c2)) (first | exact hS0 | exact hS1 | exact hmv _ (hB5.alloc hB5.size _)) (first
      | (go_at_call 110; refine (cmp64_any _ _ _).mono ?_; rintro e w' ⟨rfl, rfl⟩)
      | (go_at_call 111; refine (cmpS_any _ _ _).mono ?_; rintro e w' ⟨rfl, rfl⟩)
      | (go_at_call 112; refine (cR _ hd).mono ?_; rintro e w5 ⟨rfl, hb5⟩; have hB5 := hd.trans (hb5.mono hd.size); have hS1 := hmv _ hB5)
      | (go_at_call 109; refine (or_any (orAt5 w5 _ _ _ _ _ _) (by simp)).mono ?_; rintro e w' ⟨rfl, rfl⟩))
    go_wp2
    go_ret
    exact ⟨by rw [HR.out]; rfl, hb1.trans ((hB5.alloc hB5.size _).mono hb1.size)⟩

/-- What Compare tells. -/
def cmpT (x y : Tr) : Int := if chkT x = 0 ∧ chkT y = 0 then x.ord y else 0
set_option maxHeartbeats 2000000 in
set_option maxRecDepth 100000 in
theorem compare_any {F G : Nat → Prop} {x y : Tr} {w : World} {sv tv : Value} (hL : Letters w) (hx : TrV F w x sv) (hy : TrV G w y tv) :
    Calls Tryz.prog 100 #[.agg #[.int .i8 x.k, .int .i64 x.n, .string x.s, .string x.t, sv], .agg #[.int .i8 y.k, .int .i64 y.n, .string y.s, .string y.t, tv]] w fun e w' => e = .returned (.int .i64 (cmpT x y)) ∧ Below w.heap.size w w' := by
  obtain ⟨p, c, rfl⟩ := hx.kids.slice
  obtain ⟨p2, c2, rfl⟩ := hy.kids.slice
  obtain ⟨n1, n2, hb1, hz1⟩ := two_new w (.cells #[.int .i8 x.k, .int .i64 x.n, .string x.s, .string x.t, .slice p x.l.length c] 28) (.cells #[.int .i8 y.k, .int .i64 y.n, .string y.s, .string y.t, .slice p2 y.l.length c2] 28)
  have hL1 := hL.under hb1
  have hx1 := hx.below hb1
  have hy1 := hy.below hb1
  obtain ⟨a0, a1, a2, a3, a4⟩ := node_heap n1
  obtain ⟨b0, b1, b2, b3, b4⟩ := node_heap n2
  simp only [Nat.zero_add] at a1 a2 a3 a4 b1 b2 b3 b4
  have hU : cmpT x y = if chkT x = 0 ∧ chkT y = 0 then x.ord y else 0 := rfl
  have HU := Lib.hid hU
  clear hx hy n1 n2 hL hU
  cases e0 : (chkT x == 0)
  · have g0 : (chkT x != 0) = true := by simpa using e0
    have HV : Hid (cmpT x y = 0) := by unfold Hid; rw [HU.out, if_neg (by simp at e0; simp [e0])]
    have E0 := Lib.hid g0
    clear e0 g0
    go_enter Tryz.func100, Tryz.ntmps100
    go_upto_region 1 with fail
    generalize (w.alloc (.cells #[.int .i8 x.k, .int .i64 x.n, .string x.s, .string x.t, .slice p x.l.length c] 28)).alloc (.cells #[.int .i8 y.k, .int .i64 y.n, .string y.s, .string y.t, .slice p2 y.l.length c2] 28) = w1 at hb1 hz1 hx1 hy1 hL1 a0 a1 a2 a3 a4 b0 b1 b2 b3 b4 ⊢
    have hza : w.heap.size < w1.heap.size := by omega
    have hzb : w.heap.size + 1 < w1.heap.size := by omega
    have HZ := Lib.hid hz1
    clear hz1
    go_wp2_with (go_at_call 29; refine (tcheck_any hL1 hx1).mono ?_; rintro e w5 ⟨rfl, hb5⟩; have hB5 := hb5; obtain ⟨hc5, _⟩ := bcell hB5; have g0 := E0.out)
    go_ret
    exact ⟨by rw [HV.out]; rfl, hb1.trans (hB5.mono hb1.size)⟩
  have g0 : (chkT x != 0) = false := by simpa using e0
  cases e1 : (chkT y == 0)
  · have g1 : (chkT y != 0) = true := by simpa using e1
    have HV : Hid (cmpT x y = 0) := by unfold Hid; rw [HU.out, if_neg (by simp at e1; simp [e1])]
    clear e0 e1
    go_enter Tryz.func100, Tryz.ntmps100
    go_upto_region 1 with fail
    generalize (w.alloc (.cells #[.int .i8 x.k, .int .i64 x.n, .string x.s, .string x.t, .slice p x.l.length c] 28)).alloc (.cells #[.int .i8 y.k, .int .i64 y.n, .string y.s, .string y.t, .slice p2 y.l.length c2] 28) = w1 at hb1 hz1 hx1 hy1 hL1 a0 a1 a2 a3 a4 b0 b1 b2 b3 b4 ⊢
    have hza : w.heap.size < w1.heap.size := by omega
    have hzb : w.heap.size + 1 < w1.heap.size := by omega
    have HZ := Lib.hid hz1
    clear hz1
    go_wp2_with (first | (go_at_call 29; have _t := hB5; refine (tcheck_any (hL1.under hB5) (hy1.below hB5)).mono ?_; rintro e w6 ⟨rfl, hb6⟩; have hB6 := hB5.trans (hb6.mono hB5.size); obtain ⟨hc6, _⟩ := bcell hB6) | (go_at_call 29; refine (tcheck_any hL1 hx1).mono ?_; rintro e w5 ⟨rfl, hb5⟩; have hB5 := hb5; obtain ⟨hc5, _⟩ := bcell hB5))
    go_ret
    exact ⟨by rw [HV.out]; rfl, hb1.trans (hB6.mono hb1.size)⟩
  have g1 : (chkT y != 0) = false := by simpa using e1
  have HV : Hid (cmpT x y = x.ord y) := by unfold Hid; rw [HU.out, if_pos ⟨by simpa using e0, by simpa using e1⟩]
  clear e0 e1
  go_enter Tryz.func100, Tryz.ntmps100
  go_upto_region 1 with fail
  generalize (w.alloc (.cells #[.int .i8 x.k, .int .i64 x.n, .string x.s, .string x.t, .slice p x.l.length c] 28)).alloc (.cells #[.int .i8 y.k, .int .i64 y.n, .string y.s, .string y.t, .slice p2 y.l.length c2] 28) = w1 at hb1 hz1 hx1 hy1 hL1 a0 a1 a2 a3 a4 b0 b1 b2 b3 b4 ⊢
  have hza : w.heap.size < w1.heap.size := by omega
  have hzb : w.heap.size + 1 < w1.heap.size := by omega
  have HZ := Lib.hid hz1
  clear hz1
  go_wp2_with (first | (go_at_call 29; have _t := hB5; refine (tcheck_any (hL1.under hB5) (hy1.below hB5)).mono ?_; rintro e w6 ⟨rfl, hb6⟩; have hB6 := hB5.trans (hb6.mono hB5.size); obtain ⟨hc6, _⟩ := bcell hB6) | (go_at_call 29; refine (tcheck_any hL1 hx1).mono ?_; rintro e w5 ⟨rfl, hb5⟩; have hB5 := hb5; obtain ⟨hc5, _⟩ := bcell hB5) | (go_at_call 105; refine (order_any x y _ _ _ (hx1.below hB6) (hy1.below hB6)).mono ?_; rintro e w7 ⟨rfl, hb7⟩))
  go_ret
  exact ⟨by rw [HV.out]; rfl, hb1.trans ((hB6.trans (hb7.mono hB6.size)).mono hb1.size)⟩
end Go.Proofs.YtjnmdbfijdnaiaaGreatDoor
