/-
  pleachlaw10.MatchFill holds. Conditions: the trees lie as 'TrV' says, the names as 'Binds'; the table of letters is as it was laid.
-/
import Derived.Test.YtmnjcbjfkaoeaaaDoorS20
import Derived.Test.YtmnjcbjfkaoeaaaDoorS24
import Derived.Test.YtmnjcbjfkaoeaaaDoorS19
namespace Go.Proofs.YtmnjcbjfkaoeaaaDoor
open Go.RowKit

theorem sameB_self : ∀ l : List Bd, sameB l l = true
  | [] => rfl
  | b :: r => by rw [sameB, sameB_self r, same_self]; simp
theorem Binds.pre {F : Nat → Prop} {w : World} {p : Option Addr} {n c : Nat} {l m : List Bd} (h : Binds F w (.slice p n c) (l ++ m)) : Binds F w (.slice p l.length c) l := by
  obtain ⟨p', c', he, h1, h2, h3, h4⟩ := h
  cases he
  rw [List.length_append] at h1 h2
  refine ⟨p, c, rfl, by omega, by omega, fun i hi => ?_, h4⟩
  have := h3 i (by rw [List.length_append]; omega)
  rwa [List.getElem_append_left hi] at this
theorem Binds.cap {F : Nat → Prop} {w : World} {p : Option Addr} {n c : Nat} {l : List Bd} (h : Binds F w (.slice p n c) l) : l.length ≤ c := by
  obtain ⟨p', c', he, h1, _⟩ := h
  cases he
  exact h1
/-- The test of the walk's end. -/
def undV (z : Tr) : Bool := z.k == 5 && undB z.s

set_option maxHeartbeats 16000000 in
set_option maxRecDepth 100000 in
theorem matchFill_any {w : World} {p x : Tr} {l : List Bd} {pv xv v : Value} (hL : Letters w) (hp : TrV (fun _ => True) w p pv) (hx : TrV (fun _ => True) w x xv) (hl : Binds (fun _ => True) w v l) :
    Calls Tryd.prog 4 #[.agg #[.int .i8 p.k, .int .i64 p.n, .string p.s, .string p.t, pv], .agg #[.int .i8 x.k, .int .i64 x.n, .string x.s, .string x.t, xv], v] w fun e w' => e = .returned (.bool true) ∧ Below w.heap.size w w' := by
  obtain ⟨p1, c1, rfl⟩ := hp.kids.slice
  obtain ⟨p2, c2, rfl⟩ := hx.kids.slice
  obtain ⟨pl, cl, rfl⟩ := hl.slice
  obtain ⟨n1, n2, hb1, hz1⟩ := two_new w (.cells #[.int .i8 p.k, .int .i64 p.n, .string p.s, .string p.t, .slice p1 p.l.length c1] 25) (.cells #[.int .i8 x.k, .int .i64 x.n, .string x.s, .string x.t, .slice p2 x.l.length c2] 28)
  obtain ⟨a0, a1, a2, a3, a4⟩ := node_heap n1
  obtain ⟨b0, b1, b2, b3, b4⟩ := node_heap n2
  simp only [Nat.zero_add] at a1 a2 a3 a4 b1 b2 b3 b4
  clear n1 n2
  have HL := Lib.hid (hL.under hb1)
  have HP := Lib.hid (hp.below hb1)
  have HX := Lib.hid (hx.below hb1)
  have HB := Lib.hid (hl.under hb1)
  clear hL hp hx hl
  go_enter Tryd.func4, Tryd.ntmps4
  go_upto_region 1 with fail
  generalize (w.alloc (.cells #[.int .i8 p.k, .int .i64 p.n, .string p.s, .string p.t, .slice p1 p.l.length c1] 25)).alloc (.cells #[.int .i8 x.k, .int .i64 x.n, .string x.s, .string x.t, .slice p2 x.l.length c2] 28) = w1 at hb1 hz1 a0 a1 a2 a3 a4 b0 b1 b2 b3 b4 HL HP HX HB ⊢
  clear hz1
  have hmv : ∀ W : World, Below w1.heap.size w1 W → (W.cell? ⟨w.heap.size, 0, none⟩ = some (.int .i8 p.k) ∧ W.cell? ⟨w.heap.size, 1, none⟩ = some (.int .i64 p.n) ∧ W.cell? ⟨w.heap.size, 2, none⟩ = some (.string p.s) ∧ W.cell? ⟨w.heap.size, 3, none⟩ = some (.string p.t) ∧ W.cell? ⟨w.heap.size, 4, none⟩ = some (.slice p1 p.l.length c1)) ∧
      (W.cell? ⟨w.heap.size + 1, 0, none⟩ = some (.int .i8 x.k) ∧ W.cell? ⟨w.heap.size + 1, 1, none⟩ = some (.int .i64 x.n) ∧ W.cell? ⟨w.heap.size + 1, 2, none⟩ = some (.string x.s) ∧ W.cell? ⟨w.heap.size + 1, 3, none⟩ = some (.string x.t) ∧ W.cell? ⟨w.heap.size + 1, 4, none⟩ = some (.slice p2 x.l.length c2)) := by
    intro W hb
    have f : ∀ g o u, w1.cell? ⟨g, o, none⟩ = some u → W.cell? ⟨g, o, none⟩ = some u := fun g o u h => (hb.cell (p := ⟨g, o, none⟩) (cell_block h)).trans h
    exact ⟨⟨f _ _ _ a0, f _ _ _ a1, f _ _ _ a2, f _ _ _ a3, f _ _ _ a4⟩, f _ _ _ b0, f _ _ _ b1, f _ _ _ b2, f _ _ _ b3, f _ _ _ b4⟩
  have cN := greatN_any HP.out
  have cT := fun (W : World) (hb : Below w1.heap.size w1 W) => greatT_any (HX.out.below hb)
  have cB := fun (W : World) (hb : Below w1.heap.size w1 W) => greatL_any (HB.out.under hb)
  have cW := fun (W : World) (hb : Below w1.heap.size w1 W) => wakes_any (HL.out.under hb)
  generalize decide (8192 ≤ p.sz 8192) = g1 at cN
  generalize decide (1024 ≤ x.sz 1024) = g2 at cT
  generalize hg3 : greatB l = g3 at cB
  cases g1
  rotate_left 1
  · clear hmv cT cB
    go_wp2_with (first
      | (go_at_call 5; refine cN.mono ?_; rintro e w5 ⟨rfl, hb5⟩)
      | (go_at_call 8; refine (cW _ hb5).mono ?_; rintro e w6 ⟨rfl, hb6⟩))
    go_ret
    exact ⟨rfl, hb1.trans ((hb5.trans (hb6.mono hb5.size)).mono hb1.size)⟩
  cases g2
  rotate_left 1
  · clear cB
    go_wp2_with (first
      | (go_at_call 5; refine cN.mono ?_; rintro e w5 ⟨rfl, hb5⟩; obtain ⟨⟨x0, x1, x2, x3, x4⟩, y0, y1, y2, y3, y4⟩ := hmv _ hb5)
      | (go_at_call 6; refine (cT _ hb5).mono ?_; rintro e w7 ⟨rfl, hb7⟩; have hB7 := hb5.trans (hb7.mono hb5.size))
      | (go_at_call 8; refine (cW _ hB7).mono ?_; rintro e w6 ⟨rfl, hb6⟩))
    go_ret
    exact ⟨rfl, hb1.trans ((hB7.trans (hb6.mono hB7.size)).mono hb1.size)⟩
  cases g3
  rotate_left 1
  · clear hg3
    go_wp2_with (first
      | (go_at_call 5; refine cN.mono ?_; rintro e w5 ⟨rfl, hb5⟩; obtain ⟨⟨x0, x1, x2, x3, x4⟩, y0, y1, y2, y3, y4⟩ := hmv _ hb5)
      | (go_at_call 6; refine (cT _ hb5).mono ?_; rintro e w7 ⟨rfl, hb7⟩; have hB7 := hb5.trans (hb7.mono hb5.size))
      | (go_at_call 7; refine (cB _ hB7).mono ?_; rintro e w8 ⟨rfl, hb8⟩; have hB8 := hB7.trans (hb8.mono hB7.size))
      | (go_at_call 8; refine (cW _ hB8).mono ?_; rintro e w6 ⟨rfl, hb6⟩))
    go_ret
    exact ⟨rfl, hb1.trans ((hB8.trans (hb6.mono hB8.size)).mono hb1.size)⟩
  have hl200 : l.length ≤ 200 := by
    unfold greatB at hg3
    simp only [Bool.or_eq_false_iff, decide_eq_false_iff_not] at hg3
    omega
  have HMV := Lib.hid hmv
  clear hg3
  have cF := fun (W : World) (hb : Below w1.heap.size w1 W) => mFill_any (F := fun _ => True) (HL.out.under hb) (fun _ _ => trivial) (HP.out.below hb) (HB.out.under hb)
  have cM := fun (W : World) (hb : Below w1.heap.size w1 W) => mmatch_any (F := fun _ => True) ⟨HL.out.under hb, fun _ _ => trivial, HP.out.below hb, HX.out.below hb, HB.out.under hb⟩
  rw [allS_one] at cM
  have hfm := fil_match (p := p) (l := l)
  have hag := fun out => match_again (p := p) (x := x) (l := l) (out := out)
  have HFM := Lib.hid hfm
  have HAG := Lib.hid hag
  clear hfm hag
  go_upto_region 4 with (first
    | (go_at_call 5; refine cN.mono ?_; rintro e w5 ⟨rfl, hb5⟩; obtain ⟨⟨x0, x1, x2, x3, x4⟩, y0, y1, y2, y3, y4⟩ := hmv _ hb5)
    | (go_at_call 6; refine (cT _ hb5).mono ?_; rintro e w7 ⟨rfl, hb7⟩; have hB7 := hb5.trans (hb7.mono hb5.size))
    | (go_at_call 7; refine (cB _ hB7).mono ?_; rintro e w8 ⟨rfl, hb8⟩; have hB8 := hB7.trans (hb8.mono hB7.size); obtain ⟨⟨u0, u1, u2, u3, u4⟩, t0, t1, t2, t3, t4⟩ := hmv _ hB8)
    | (go_at_call 13; refine (cF _ hB8).mono ?_; rintro e w9 ⟨y, yv, er, rfl, hy9, hb9, hq9⟩; obtain ⟨p5, c5, rfl⟩ := hy9.kids.slice; have hn9 : (w9.alloc (.cells #[.int .i8 0, .int .i64 0, .string ⟨#[]⟩, .string ⟨#[]⟩, .slice none 0 0] 28)).heap[w9.heap.size]? = some (.cells (cells5 zeroT (.slice none 0 0)) 28 (0, 0)) := heap_new w9 _)
    | (refine wpList_store_row rfl 28 _ _ rfl w9.heap.size (cells5 y (.slice p5 y.l.length c5)) (by kernel_rfl) (by kernel_rfl) 28 (cells5 zeroT (.slice none 0 0)) hn9 (size28 _ _) (by kernel_rfl) (by kernel_rfl) ?_))
  have hr10 := setRow_heap' (cells := cells5 y (.slice p5 y.l.length c5)) hn9
  have hb910 := below_setRow (g := w9.heap.size) (cells := cells5 y (.slice p5 y.l.length c5)) (alloc_below w9 (.cells #[.int .i8 0, .int .i64 0, .string ⟨#[]⟩, .string ⟨#[]⟩, .slice none 0 0] 28)) (Nat.le_refl _)
  generalize (w9.alloc (.cells #[.int .i8 0, .int .i64 0, .string ⟨#[]⟩, .string ⟨#[]⟩, .slice none 0 0] 28)).setRow w9.heap.size (cells5 y (.slice p5 y.l.length c5)) = w10 at hr10 hb910 ⊢
  have hB9 := hB8.trans (hb9.mono hB8.size)
  have hB10 := hB9.trans (hb910.mono hB9.size)
  have hy10 := hy9.below hb910
  obtain ⟨d0, d1, d2, d3, d4⟩ := node_heap (x := y) hr10
  simp only [Nat.zero_add] at d1 d2 d3 d4
  have HY10 := Lib.hid hy10
  clear x0 x1 x2 x3 x4 y0 y1 y2 y3 y4 u0 u1 u2 u3 u4 t0 t1 t2 t3 t4 a0 a1 a2 a3 a4 b0 b1 b2 b3 b4 hn9 hr10 hy9 hy10 cN cT cB hb5 hb7 hb8 hb9 hb910 hmv
  by_cases he : er = 0
  case' pos =>
    subst he
    have hall : matchS p y l = (l, true, 0) := by have := HFM.out (by rw [hq9]); rwa [hq9] at this
    have cM2 := mmatch_any (F := fun _ => True) ⟨HL.out.under hB10, fun _ _ => trivial, HP.out.below hB10, HY10.out, HB.out.under hB10⟩
    rw [allS_one, hall] at cM2
    obtain ⟨⟨x0, x1, x2, x3, x4⟩, y0, y1, y2, y3, y4⟩ := HMV.out _ hB10
    clear hall hq9
    go_upto_region 8 with (first
      | (go_at_call 11; refine cM2.mono ?_; rintro e w11 ⟨v11, l11, ok11, er11, rfl, hl11, hb11, hq11⟩; cases hq11; have hB11 := hB10.trans (hb11.mono hB10.size); obtain ⟨p11, c11, rfl⟩ := hl11.slice; have cS := bsame_any hl11 (HB.out.under hB11); rw [sameB_self] at cS)
      | (go_at_call 12; refine cS.mono ?_; rintro e w12 ⟨rfl, hb12⟩; have hB12 := hB11.trans (hb12.mono hB11.size)))
    clear cS hl11 hb11 hb12 hB11 cM2 x0 x1 x2 x3 x4 y0 y1 y2 y3 y4
  case' neg =>
    have he' : (er == 0) = false := by simpa using he
    clear he hq9
    go_upto_region 8 with fail
    have hB12 := hB10
    obtain ⟨w12, hw12⟩ : ∃ W, W = w10 := ⟨w10, rfl⟩
    rw [← hw12] at hB12 ⊢
    clear hw12 he'
  all_goals
    obtain ⟨⟨x0, x1, x2, x3, x4⟩, y0, y1, y2, y3, y4⟩ := HMV.out _ hB12
    have cM3 := cM _ hB12
    go_upto_region 9 with (go_at_call 11; refine cM3.mono ?_; rintro e w13 ⟨v13, out, ok13, er13, rfl, hl13, hb13, hq13⟩; have hB13 := hB12.trans (hb13.mono hB12.size); obtain ⟨p13, c13, rfl⟩ := hl13.slice)
    have HL13 := Lib.hid hl13
    clear cM3 x0 x1 x2 x3 x4 y0 y1 y2 y3 y4 hl13 hb13
    have HQ13 := Lib.hid hq13
    clear hq13
    by_cases he3 : er13 = 0
    case' neg =>
      have cW3 := cW _ hB13
      have he4 : (er13 != 0) = true := by simpa using he3
      clear he3 cM cF
      go_wp2_with (go_at_call 8; refine cW3.mono ?_; rintro e w14 ⟨rfl, hb14⟩)
      go_ret
      exact ⟨rfl, hb1.trans ((hB13.trans (hb14.mono hB13.size)).mono hb1.size)⟩
    case' pos =>
      subst he3
      cases ok13
    case' pos.false =>
      have cW3 := cW _ hB13
      clear cM cF
      go_wp2_with (go_at_call 8; refine cW3.mono ?_; rintro e w14 ⟨rfl, hb14⟩)
      go_ret
      exact ⟨rfl, hb1.trans ((hB13.trans (hb14.mono hB13.size)).mono hb1.size)⟩
    case' pos.true =>
      obtain ⟨⟨m, rfl⟩, hag⟩ := HAG.out _ HQ13.out
      have hle13 : l.length ≤ (l ++ m).length := by simp
      have HLE := Lib.hid (HL13.out.pre)
      generalize l ++ m = out at *
      have hlen13 : out.length ≤ 2199023255552 := HL13.out.len
      have hcap13 : l.length ≤ c13 := by have := HL13.out.cap; omega
      have HAG2 := Lib.hid hag
      have cS13 := bsame_any HLE.out (HB.out.under hB13)
      rw [sameB_self] at cS13
      clear hag
      by_cases hbig : (64 : Int) < out.length
      case' pos =>
        go_upto_region 12 with (go_at_call 12; refine cS13.mono ?_; rintro e w14 ⟨rfl, hb14⟩)
        have hB14 := hB13.trans (hb14.mono hB13.size)
        have cW3 := cW _ hB14
        go_wp2_with (go_at_call 8; refine cW3.mono ?_; rintro e w15 ⟨rfl, hb15⟩)
        go_ret
        exact ⟨rfl, hb1.trans ((hB14.trans (hb15.mono hB14.size)).mono hb1.size)⟩
      case' neg =>
        go_upto_region 13 with (go_at_call 12; refine cS13.mono ?_; rintro e w14 ⟨rfl, hb14⟩)
        have hB14 := hB13.trans (hb14.mono hB13.size)
        obtain ⟨hq15, hfil, hund⟩ := HAG2.out (by omega)
        have hpp := match_parts HQ13.out
        have hnn := pat_nn hpp.1
        have cM5 := mmatch_any (F := fun _ => True) ⟨HL.out.under hB14, fun _ _ => trivial, HP.out.below hB14, HX.out.below hB14, HL13.out.under hb14⟩
        rw [allS_one, hq15] at cM5
        obtain ⟨⟨x0, x1, x2, x3, x4⟩, y0, y1, y2, y3, y4⟩ := HMV.out _ hB14
        have HFI := Lib.hid hfil
        have HUN := Lib.hid hund
        have HL14 := Lib.hid (HL13.out.under hb14)
        clear hfil hund hq15 hpp cS13 cM cF hb14
        go_upto_region 16 with (first
          | (go_at_call 11; refine cM5.mono ?_; rintro e w15 ⟨v15, l15, ok15, er15, rfl, hl15, hb15, hq15⟩; cases hq15; have hB15 := hB14.trans (hb15.mono hB14.size); obtain ⟨p15, c15, rfl⟩ := hl15.slice; have cS5 := bsame_any hl15 (HL14.out.under hb15); rw [sameB_self] at cS5)
          | (go_at_call 12; refine cS5.mono ?_; rintro e w16 ⟨rfl, hb16⟩))
        have hB16 := hB15.trans (hb16.mono hB15.size)
        have cF6 := mFill_any (F := fun _ => True) (HL.out.under hB16) (fun _ _ => trivial) (HP.out.below hB16) ((HL14.out.under hb15).under hb16)
        obtain ⟨⟨z0, z1, z2, z3, z4⟩, _, _, _, _, _⟩ := HMV.out _ hB16
        clear x0 x1 x2 x3 x4 y0 y1 y2 y3 y4 hl15 cS5 cM5 hb15 hb16
        generalize hqf : filS p out = qf at cF6
        have HQF := Lib.hid hqf
        clear hqf
        go_upto_region 17 with (first
          | (go_at_call 13; refine cF6.mono ?_; rintro e w17 ⟨z, zv, ez, rfl, hz17, hb17, hq17⟩; obtain ⟨p17, c17, rfl⟩ := hz17.kids.slice; have hn17 : (w17.alloc (.cells #[.int .i8 0, .int .i64 0, .string ⟨#[]⟩, .string ⟨#[]⟩, .slice none 0 0] 28)).heap[w17.heap.size]? = some (.cells (cells5 zeroT (.slice none 0 0)) 28 (0, 0)) := heap_new w17 _)
          | (refine wpList_store_row rfl 28 _ _ rfl w17.heap.size (cells5 z (.slice p17 z.l.length c17)) (by kernel_rfl) (by kernel_rfl) 28 (cells5 zeroT (.slice none 0 0)) hn17 (size28 _ _) (by kernel_rfl) (by kernel_rfl) ?_))
        have hr18 := setRow_heap' (cells := cells5 z (.slice p17 z.l.length c17)) hn17
        have hb178 := below_setRow (g := w17.heap.size) (cells := cells5 z (.slice p17 z.l.length c17)) (alloc_below w17 (.cells #[.int .i8 0, .int .i64 0, .string ⟨#[]⟩, .string ⟨#[]⟩, .slice none 0 0] 28)) (Nat.le_refl _)
        generalize (w17.alloc (.cells #[.int .i8 0, .int .i64 0, .string ⟨#[]⟩, .string ⟨#[]⟩, .slice none 0 0] 28)).setRow w17.heap.size (cells5 z (.slice p17 z.l.length c17)) = w18 at hr18 hb178 ⊢
        have hB17 := hB16.trans (hb17.mono hB16.size)
        have hB18 := hB17.trans (hb178.mono hB17.size)
        have hz18 := hz17.below hb178
        obtain ⟨⟨z0, z1, z2, z3, z4⟩, _, _, _, _, _⟩ := HMV.out _ hB18
        have hzn := node_heap (x := z) hr18
        have HZN := Lib.hid hzn
        have HZ18 := Lib.hid hz18
        have HQ17 := Lib.hid hq17
        have cWk := walkK_any (F := fun _ => True) (most := 4097) (fun _ _ => trivial) (HP.out.below hB18) (by omega) (by omega)
        clear hn17 hr18 hz17 hz18 hb17 hb178 hzn hq17 cF6
        go_upto_region 19 with (go_at_call 14; refine cWk.mono ?_; rintro e w19 ⟨v19, rfl, hk19, hb19⟩; obtain ⟨p19, c19, rfl⟩ := hk19.slice)
        have hB19 := hB18.trans (hb19.mono hB18.size)
        have hlen19 : p.pre.length ≤ 2199023255552 := hk19.len
        have HK19 := Lib.hid hk19
        have hlt18 := HZN.out.lt
        clear z0 z1 z2 z3 z4 cWk hk19
        go_loopw [21] (fun i wr => ∃ k : Nat, k ≤ p.pre.length ∧ i = .int .i64 k ∧ (p.pre.take k).any undV = false ∧ wr = w19) (fun i _ => p.pre.length - (intOf i).toNat)
        case atStart => exact ⟨0, Nat.zero_le _, rfl, rfl, rfl⟩
        case round =>
          obtain ⟨k, hk, rfl, hall, rfl⟩ := hrel
          by_cases hlt : k < p.pre.length
          · obtain ⟨g, o, kv, rfl, _, hnode, _⟩ := HK19.out.at hlt
            obtain ⟨e0, e1, e2, e3, e4⟩ := hnode
            by_cases h5 : p.pre[k].k = 5
            · cases hu : undB p.pre[k].s
              · have HN := Lib.hid (any_take (P := undV) hlt hall (by unfold undV; rw [hu]; simp))
                have d5 : (p.pre[k].s.toList == [95]) = false := hu
                rw [h5] at e0
                clear hall hu h5 e1 e3 e4
                go_wp2
                go_roundw
                case rel => exact ⟨k + 1, hlt, by go_num, HN.out, by first | rfl | trivial⟩
                case measure => simp [intOf]; omega
              · have hez : ez = 2 := by have := HUN.out ⟨_, List.getElem_mem hlt, h5, hu⟩; rw [HQF.out, HQ17.out] at this; exact this
                have d5 : (p.pre[k].s.toList == [95]) = true := hu
                rw [h5] at e0
                subst hez
                have cW7 := cW _ hB19
                clear hall hu h5 e1 e3 e4 cW
                go_wp2_with (go_at_call 8; refine cW7.mono ?_; rintro e w20 ⟨rfl, hb20⟩)
                go_ret
                exact ⟨rfl, hb1.trans ((hB19.trans (hb20.mono hB19.size)).mono hb1.size)⟩
            · have d5 : (p.pre[k].k == 5) = false := by simpa using h5
              have HN := Lib.hid (any_take (P := undV) hlt hall (by unfold undV; rw [d5]; rfl))
              clear hall h5 e1 e2 e3 e4
              go_wp2
              go_roundw
              case rel => exact ⟨k + 1, hlt, by go_num, HN.out, by first | rfl | trivial⟩
              case measure => simp [intOf]; omega
          · rw [List.take_of_length_le (by omega)] at hall
            have hno : noUnd p := fun z hz h5 => by
              have := List.any_eq_false.1 hall z hz
              simp only [undV, h5, beq_self_eq_true, Bool.true_and, Bool.not_eq_true] at this
              exact this
            have hzz : (z, ez) = (x, 0) := by rw [← HQ17.out, ← HQF.out]; exact HFI.out hno
            cases hzz
            obtain ⟨_, y0, y1, y2, y3, y4⟩ := HMV.out _ hB19
            obtain ⟨z0, z1, z2, z3, z4⟩ := HZN.out.keep (hb19.block _ hlt18)
            simp only [Nat.zero_add] at z1 z2 z3 z4
            have cS9 := rsame_any x x wr _ _ (HZ18.out.below hb19) (HX.out.below hB19)
            rw [same_self] at cS9
            clear hall hno
            go_wp2_with (first
              | (go_at_call 15; refine cS9.mono ?_; rintro e w20 ⟨rfl, hb20⟩; have hB20 := hB19.trans (hb20.mono hB19.size))
              | (go_at_call 8; refine (cW _ hB20).mono ?_; rintro e w21 ⟨rfl, hb21⟩))
            go_ret
            exact ⟨rfl, hb1.trans ((hB20.trans (hb21.mono hB20.size)).mono hb1.size)⟩
end Go.Proofs.YtmnjcbjfkaoeaaaDoor
