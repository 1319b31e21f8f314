/-
  pleachref10.Match, All. Conditions: the trees lie as 'TrV', 'Kids' say, the names as 'Binds'; at most 200 patterns.
-/
import Derived.Test.YtjnmdbfijdnaiaaGreatDoorRg1
namespace Go.Proofs.YtjnmdbfijdnaiaaGreatDoor
open Go.RowKit

def goR (p x : Tr) (l : List Bd) : List Bd × Bool × Int := match p.go x l with
  | some l' => (l', true, 0)
  | none => (l, false, 0)
def matchS (p x : Tr) (l : List Bd) : List Bd × Bool × Int := if (!patB p || (!(chkT x == 0) || !mayB l)) = true then ([], false, 2) else goR p x l
theorem allS_one (p x : Tr) (l : List Bd) : allS [p] [x] l = matchS p x l := by
  have hb : badAll [p] [x] l = (!patB p || (!(chkT x == 0) || !mayB l)) := by
    unfold badAll
    simp only [List.any_cons, List.any_nil, List.length_singleton, Bool.or_false]
    cases mayB l <;> cases patB p <;> cases (chkT x == 0) <;> rfl
  unfold allS matchS
  rw [hb]
  split
  · rfl
  · unfold goR
    rw [Tr.go.gol]
    cases p.go x l with
    | none => rfl
    | some b => rfl

set_option maxHeartbeats 4000000 in
set_option maxRecDepth 100000 in
theorem rmatch_any {F : Nat → Prop} {p x : Tr} {l : List Bd} {w : World} {pv xv v : Value} (h : MatchHyp F p x l w pv xv v) :
    Calls Tryz.prog 10 #[.agg #[.int .i8 p.k, .int .i64 p.n, .string p.s, .string p.t, pv], .agg #[.int .i8 x.k, .int .i64 x.n, .string x.s, .string x.t, xv], v] w (AllPost F (allS [p] [x] l) w) := by
  obtain ⟨p1, c1, rfl⟩ := h.hp.kids.slice
  obtain ⟨p2, c2, rfl⟩ := h.hx.kids.slice
  obtain ⟨pl, cl, rfl⟩ := h.hl.slice
  obtain ⟨n1, n2, hb1, hz1⟩ := two_new w (.cells #[.int .i8 p.k, .int .i64 p.n, .string p.s, .string p.t, .slice p1 p.l.length c1] 25) (.cells #[.int .i8 x.k, .int .i64 x.n, .string x.s, .string x.t, .slice p2 x.l.length c2] 28)
  obtain ⟨a0, a1, a2, a3, a4⟩ := node_heap n1
  obtain ⟨b0, b1, b2, b3, b4⟩ := node_heap n2
  simp only [Nat.zero_add] at a1 a2 a3 a4 b1 b2 b3 b4
  clear n1 n2
  have H := Lib.hid h
  have hS : allS [p] [x] l = if (!patB p || (!(chkT x == 0) || !mayB l)) = true then ([], false, 2) else goR p x l := allS_one p x l
  clear h
  go_enter Tryz.func10, Tryz.ntmps10
  go_upto_region 1 with fail
  generalize (w.alloc (.cells #[.int .i8 p.k, .int .i64 p.n, .string p.s, .string p.t, .slice p1 p.l.length c1] 25)).alloc (.cells #[.int .i8 x.k, .int .i64 x.n, .string x.s, .string x.t, .slice p2 x.l.length c2] 28) = w1 at hb1 hz1 a0 a1 a2 a3 a4 b0 b1 b2 b3 b4 ⊢
  clear hz1
  have hmv : ∀ W : World, Below w1.heap.size w1 W → (W.cell? ⟨w.heap.size, 0, none⟩ = some (.int .i8 p.k) ∧ W.cell? ⟨w.heap.size, 1, none⟩ = some (.int .i64 p.n) ∧ W.cell? ⟨w.heap.size, 2, none⟩ = some (.string p.s) ∧ W.cell? ⟨w.heap.size, 3, none⟩ = some (.string p.t) ∧ W.cell? ⟨w.heap.size, 4, none⟩ = some (.slice p1 p.l.length c1)) ∧
      (W.cell? ⟨w.heap.size + 1, 0, none⟩ = some (.int .i8 x.k) ∧ W.cell? ⟨w.heap.size + 1, 1, none⟩ = some (.int .i64 x.n) ∧ W.cell? ⟨w.heap.size + 1, 2, none⟩ = some (.string x.s) ∧ W.cell? ⟨w.heap.size + 1, 3, none⟩ = some (.string x.t) ∧ W.cell? ⟨w.heap.size + 1, 4, none⟩ = some (.slice p2 x.l.length c2)) := by
    intro W hb
    have f : ∀ g o u, w1.cell? ⟨g, o, none⟩ = some u → W.cell? ⟨g, o, none⟩ = some u := fun g o u h => (hb.cell (p := ⟨g, o, none⟩) (cell_block h)).trans h
    exact ⟨⟨f _ _ _ a0, f _ _ _ a1, f _ _ _ a2, f _ _ _ a3, f _ _ _ a4⟩, f _ _ _ b0, f _ _ _ b1, f _ _ _ b2, f _ _ _ b3, f _ _ _ b4⟩
  have cP := npattern_any (H.out.hp.below hb1)
  have cC := fun (W : World) (hb : Below w1.heap.size w1 W) => rcheck_any ((H.out.hx.below hb1).below hb)
  have cM := fun (W : World) (hb : Below w1.heap.size w1 W) => rbmay_any ((H.out.hl.under hb1).under hb)
  have hnil : ∀ W, Below w1.heap.size w1 W → allS [p] [x] l = ([], false, 2) → AllPost F (allS [p] [x] l) w (.returned (.tuple #[.slice none 0 0, .bool false, .int .i64 2])) W := fun W hb hq =>
    ⟨_, [], _, _, rfl, Binds.nil F W, hb1.trans (hb.mono hb1.size), hq⟩
  have HN := Lib.hid hnil
  clear hnil
  cases e1 : patB p
  · rw [e1] at cP hS
    have HS : Hid (allS [p] [x] l = ([], false, 2)) := hS
    clear hS hmv cC cM e1
    go_wp2_with (go_at_call 24; refine cP.mono ?_; rintro e w5 ⟨rfl, hb5⟩)
    go_ret3
    exact HN.out _ hb5 HS.out
  rw [e1] at cP hS
  cases e2 : (chkT x == 0)
  · rw [e2] at hS
    have HS : Hid (allS [p] [x] l = ([], false, 2)) := hS
    have g2 : (chkT x != 0) = true := by simpa using e2
    clear hS cM a0 a1 a2 a3 a4 b0 b1 b2 b3 b4 e1 e2
    obtain ⟨⟨a0, a1, a2, a3, a4⟩, b0, b1, b2, b3, b4⟩ := hmv w1 (Below.refl _ _)
    generalize chkT x = q at cC g2
    go_wp2_with (first
      | (go_at_call 24; refine cP.mono ?_; rintro e w5 ⟨rfl, hb5⟩; obtain ⟨⟨x0, x1, x2, x3, x4⟩, y0, y1, y2, y3, y4⟩ := hmv _ hb5)
      | (go_at_call 25; refine (cC _ hb5).mono ?_; rintro e w6 ⟨rfl, hb6⟩; have hB6 := hb5.trans (hb6.mono hb5.size)))
    go_ret3
    exact HN.out _ hB6 HS.out
  have hc0 : chkT x = 0 := by simpa using e2
  rw [e2] at hS
  cases e3 : mayB l
  · rw [e3] at hS cM
    have HS : Hid (allS [p] [x] l = ([], false, 2)) := hS
    rw [hc0] at cC
    clear hS e1 e2 e3 hc0
    go_wp2_with (first
      | (go_at_call 24; refine cP.mono ?_; rintro e w5 ⟨rfl, hb5⟩; obtain ⟨⟨x0, x1, x2, x3, x4⟩, y0, y1, y2, y3, y4⟩ := hmv _ hb5)
      | (go_at_call 25; refine (cC _ hb5).mono ?_; rintro e w6 ⟨rfl, hb6⟩; have hB6 := hb5.trans (hb6.mono hb5.size))
      | (go_at_call 13; refine (cM _ hB6).mono ?_; rintro e w7 ⟨rfl, hb7⟩; have hB7 := hB6.trans (hb7.mono hB6.size)))
    go_ret3
    exact HN.out _ hB7 HS.out
  rw [e3] at hS cM
  have hS2 : allS [p] [x] l = goR p x l := hS
  have HS := Lib.hid hS2
  have hmay : l.length ≤ 64 ∧ ∀ b ∈ l, chkT b.t = 0 := by
    unfold mayB at e3
    simp only [Bool.and_eq_true, decide_eq_true_eq, Bool.not_eq_true'] at e3
    refine ⟨e3.1, fun b hb => ?_⟩
    have := List.any_eq_false.1 e3.2 b hb
    unfold badB at this
    simp at this
    exact this.2.2
  have hpat : p.pat = true := by
    unfold patB at e1
    simp only [Bool.and_eq_true] at e1
    exact e1.2
  have hnn := pat_nn e1
  have cG := fun (W : World) (hb : Below w1.heap.size w1 W) => goes_any (F := F) p x l W _ _ _ ⟨(H.out.lt.under hb1).under hb, fun k hk => H.out.fr k (by have := hb1.size; have := hb.size; omega), (H.out.hp.below hb1).below hb, (H.out.hx.below hb1).below hb, (H.out.hl.under hb1).under hb, hpat, hc0, hmay.2, by omega⟩
  rw [hc0] at cC
  clear hS hS2 e1 e2 e3 hc0 hmay hpat hnn
  go_upto_region 4 with (first
    | (go_at_call 24; refine cP.mono ?_; rintro e w5 ⟨rfl, hb5⟩; obtain ⟨⟨x0, x1, x2, x3, x4⟩, y0, y1, y2, y3, y4⟩ := hmv _ hb5)
    | (go_at_call 25; refine (cC _ hb5).mono ?_; rintro e w6 ⟨rfl, hb6⟩; have hB6 := hb5.trans (hb6.mono hb5.size))
    | (go_at_call 13; refine (cM _ hB6).mono ?_; rintro e w7 ⟨rfl, hb7⟩; have hB7 := hB6.trans (hb7.mono hB6.size); obtain ⟨⟨z0, z1, z2, z3, z4⟩, v0, v1, v2, v3, v4⟩ := hmv _ hB7)
    | (go_at_call 26; refine (cG _ hB7).mono ?_; rintro e w9 ⟨v9, l9, ok9, rfl, hl9, hb9, hc9, hn9, hr9⟩; obtain ⟨p9, c9, rfl⟩ := hl9.slice; have hB9 := hB7.trans (hb9.mono hB7.size)))
  have hfin := HS.out
  unfold goR at hfin
  rw [hr9] at hfin
  have hBw := hb1.trans (hB9.mono hb1.size)
  cases ok9
  · have HF : Hid (allS [p] [x] l = (l, false, 0)) := hfin
    clear hfin
    go_wp2
    go_ret3
    exact ⟨_, l, _, _, rfl, H.out.hl.under hBw, hBw, HF.out⟩
  · have HF : Hid (allS [p] [x] l = (l9, true, 0)) := hfin
    clear hfin
    go_wp2
    go_ret3
    exact ⟨_, l9, _, _, rfl, hl9, hBw, HF.out⟩
end Go.Proofs.YtjnmdbfijdnaiaaGreatDoor
