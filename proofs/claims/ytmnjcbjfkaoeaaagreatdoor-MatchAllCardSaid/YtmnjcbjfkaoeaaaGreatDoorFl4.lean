/-
  pleachref10.Fill. Conditions: the letters lie as 'Letters' says; the pattern lies as 'TrV' says, the names as 'Binds'.
-/
import Derived.Test.YtmnjcbjfkaoeaaaGreatDoorS23
import Derived.Test.YtmnjcbjfkaoeaaaGreatDoorS24
namespace Go.Proofs.YtmnjcbjfkaoeaaaGreatDoor
open Go.RowKit

/-- A name that has no term. -/
def lackV (l : List Bd) (z : Tr) : Bool := z.k == 5 && (bfind l z.s).isNone

set_option maxHeartbeats 8000000 in
set_option maxRecDepth 100000 in
theorem rFill_any {F : Nat → Prop} {p : Tr} {l : List Bd} {w : World} {pv v : Value} (hF : ∀ k, w.heap.size ≤ k → F k) (hp : TrV F w p pv) (hl : Binds F w v l) :
    Calls Tryz.prog 20 #[.agg #[.int .i8 p.k, .int .i64 p.n, .string p.s, .string p.t, pv], v] w (FillPost F (filS p l) w) := by
  rw [← filS_eq]
  obtain ⟨p1, c1, rfl⟩ := hp.kids.slice
  obtain ⟨pl, cl, rfl⟩ := hl.slice
  obtain ⟨n1, n2, hb1, hz1⟩ := two_new w (.cells #[.int .i8 p.k, .int .i64 p.n, .string p.s, .string p.t, .slice p1 p.l.length c1] 31) (.cells #[.int .i8 0, .int .i64 0, .string ⟨#[]⟩, .string ⟨#[]⟩, .slice none 0 0] 37)
  have hp0 : TrV (fun g => F g ∧ g < w.heap.size) w p (.slice p1 p.l.length c1) := hp.mono fun g hg h => ⟨hg, h⟩
  have hl0 : Binds (fun g => F g ∧ g < w.heap.size) w (.slice pl l.length cl) l := hl.mono fun g hg h => ⟨hg, h⟩
  have hSS : rfilS p l = if (!patB p || !mayB l) = true then ((zeroT, 2) : Tr × Int) else if (p.pre.any (lackV l)) = true then ((zeroT, 2) : Tr × Int) else
    if 256 < (p.rfil l).sz 257 then ((zeroT, 11) : Tr × Int) else (p.rfil l, 0) := rfl
  have HS := Lib.hid hSS
  have HF := Lib.hid hF
  have HP := Lib.hid (hp0.below hb1)
  have HB := Lib.hid (hl0.under hb1)
  clear hp hl hp0 hl0 hSS hF
  go_enter Tryz.func20, Tryz.ntmps20
  go_upto_region 1 with fail
  generalize (w.alloc (.cells #[.int .i8 p.k, .int .i64 p.n, .string p.s, .string p.t, .slice p1 p.l.length c1] 31)).alloc (.cells #[.int .i8 0, .int .i64 0, .string ⟨#[]⟩, .string ⟨#[]⟩, .slice none 0 0] 37) = w1 at n1 n2 hb1 hz1 HP HB ⊢
  have HZ := Lib.hid hz1
  have hN : ∀ W, Below w1.heap.size w1 W → NodeAt W w.heap.size 0 p (.slice p1 p.l.length c1) := fun W hb => node_heap ((hb.block _ (show w.heap.size < w1.heap.size by omega)).trans n1)
  have hT : ∀ W, Below w1.heap.size w1 W → W.heap[w.heap.size + 1]? = some (.cells (cells5 zeroT (.slice none 0 0)) 37 (0, 0)) := fun W hb => (hb.block _ (show w.heap.size + 1 < w1.heap.size by omega)).trans n2
  have HN := Lib.hid hN
  have HT := Lib.hid hT
  obtain ⟨a0, a1, a2, a3, a4⟩ := hN w1 (Below.refl _ _)
  simp only [Nat.zero_add] at a1 a2 a3 a4
  have cP := npattern_any HP.out
  have cM := fun (W : World) (hb : Below w1.heap.size w1 W) => rbmay_any (HB.out.under hb)
  clear hz1 n1 n2 hN hT
  have hzero : ∀ (W : World) (er : Int), Below w1.heap.size w1 W → rfilS p l = (zeroT, er) → (W.setRow (w.heap.size + 1) (cells5 zeroT (.slice none 0 0))).heap[w.heap.size + 1]? = some (.cells (cells5 zeroT (.slice none 0 0)) 37 (0, 0)) ∧ FillPost F (rfilS p l) w (.returned (.tuple #[.agg (cells5 zeroT (.slice none 0 0)), .int .i64 er])) (W.setRow (w.heap.size + 1) (cells5 zeroT (.slice none 0 0))) := fun W er hb he =>
    ⟨setRow_heap' (HT.out W hb), ⟨zeroT, _, er, rfl, zero_trv _ _, below_setRow (hb1.trans (hb.mono hb1.size)) (by omega), he⟩⟩
  have HZERO := Lib.hid hzero
  clear hzero
  cases e1 : patB p
  · have HE : Hid (rfilS p l = (zeroT, 2)) := by unfold Hid; rw [HS.out, e1]; rfl
    rw [e1] at cP
    clear cM e1
    go_wp2_with (first
      | (go_at_call 69; refine cP.mono ?_; rintro e w5 ⟨rfl, hb5⟩; have hz5 := HT.out w5 hb5)
      | (refine wpList_store_row rfl 37 _ _ rfl (w.heap.size + 1) (cells5 zeroT (.slice none 0 0)) (by kernel_rfl) (by kernel_rfl) 37 (cells5 zeroT (.slice none 0 0)) hz5 (size28 _ _) (by kernel_rfl) (by kernel_rfl) ?_))
    obtain ⟨hr, hpost⟩ := HZERO.out _ _ hb5 HE.out
    exact bodyPost_ret (v := .tuple #[.agg (cells5 zeroT (.slice none 0 0)), .int .i64 2]) (results_term Tryz.results20 _ _ _ _ _ rfl hr) rfl hpost
  rw [e1] at cP
  cases e2 : mayB l
  · have HE : Hid (rfilS p l = (zeroT, 2)) := by unfold Hid; rw [HS.out, e1, e2]; rfl
    rw [e2] at cM
    clear e1 e2
    go_wp2_with (first
      | (go_at_call 69; refine cP.mono ?_; rintro e w5 ⟨rfl, hb5⟩)
      | (go_at_call 68; refine (cM _ hb5).mono ?_; rintro e w6 ⟨rfl, hb6⟩; have hB6 := hb5.trans (hb6.mono hb5.size); have hz6 := HT.out w6 hB6)
      | (refine wpList_store_row rfl 37 _ _ rfl (w.heap.size + 1) (cells5 zeroT (.slice none 0 0)) (by kernel_rfl) (by kernel_rfl) 37 (cells5 zeroT (.slice none 0 0)) hz6 (size28 _ _) (by kernel_rfl) (by kernel_rfl) ?_))
    obtain ⟨hr, hpost⟩ := HZERO.out _ _ hB6 HE.out
    exact bodyPost_ret (v := .tuple #[.agg (cells5 zeroT (.slice none 0 0)), .int .i64 2]) (results_term Tryz.results20 _ _ _ _ _ rfl hr) rfl hpost
  rw [e2] at cM
  have HS2 := Lib.hid (HS.out.trans (by rw [e1, e2]; rfl : _ = if (p.pre.any (lackV l)) = true then ((zeroT, 2) : Tr × Int) else if 256 < (p.rfil l).sz 257 then ((zeroT, 11) : Tr × Int) else (p.rfil l, 0)))
  have hnn := pat_nn e1
  clear e1 e2
  have cWk := fun (W : World) (hb : Below w1.heap.size w1 W) => walkK_any (F := fun _ => True) (most := 4097) (fun _ _ => trivial) ((HP.out.below hb).wide fun _ _ _ => trivial) (by omega) (by omega)
  go_upto_region 5 with (first
    | (go_at_call 69; refine cP.mono ?_; rintro e w5 ⟨rfl, hb5⟩)
    | (go_at_call 68; refine (cM _ hb5).mono ?_; rintro e w6 ⟨rfl, hb6⟩; have hB6 := hb5.trans (hb6.mono hb5.size); obtain ⟨b0, b1, b2, b3, b4⟩ := HN.out w6 hB6; simp only [Nat.zero_add] at b1 b2 b3 b4)
    | (go_at_call 73; refine (cWk _ hB6).mono ?_; rintro e w7 ⟨v7, rfl, hk7, hb7⟩; obtain ⟨p7, c7, rfl⟩ := hk7.slice))
  have hB7 := hB6.trans (hb7.mono hB6.size)
  have hlen7 : p.pre.length ≤ 4096 := by rw [pre_len]; exact hnn
  have HK := Lib.hid hk7
  clear a0 a1 a2 a3 a4 b0 b1 b2 b3 b4 hk7 cWk cM cP hb5 hb6
  go_loopw [7] (fun i wr => ∃ k : Nat, k ≤ p.pre.length ∧ i = .int .i64 k ∧ (p.pre.take k).any (lackV l) = false ∧ Below w7.heap.size w7 wr) (fun i _ => p.pre.length - (intOf i).toNat)
  case atStart => exact ⟨0, Nat.zero_le _, rfl, rfl, Below.refl _ _⟩
  case round =>
    obtain ⟨k, hk, rfl, hall, hbr⟩ := hrel
    have hBr := hB7.trans (hbr.mono hB7.size)
    by_cases hlt : k < p.pre.length
    · obtain ⟨g, ofs, kv, rfl, _, hnode, _⟩ := (HK.out.under hbr).at hlt
      obtain ⟨e0, e1, e2, e3, e4⟩ := hnode
      by_cases h5 : p.pre[k].k = 5
      · have cF := rfind_any (s := p.pre[k].s) (HB.out.under hBr)
        rw [h5] at e0
        have hstop : bfind l p.pre[k].s = none → Hid (rfilS p l = (zeroT, 2)) := fun h => by
          unfold Hid; rw [HS2.out, if_pos (any_at (P := lackV l) hlt (by unfold lackV; rw [h5, h]; rfl))]
        have hnext : ∀ y, bfind l p.pre[k].s = some y → Hid ((p.pre.take (k + 1)).any (lackV l) = false) := fun y h => any_take (P := lackV l) hlt hall (by unfold lackV; rw [h]; simp)
        clear hall h5
        unfold FindSays at cF
        cases hf : bfind l p.pre[k].s with
        | none =>
          have HST := hstop hf
          rw [hf] at cF
          simp only [Option.isSome_none, Option.getD_none] at cF
          clear hstop hnext hf
          go_upto_region 9 with (first
            | (go_at_call 74; refine cF.mono ?_; rintro e w9 ⟨y, yv, rfl, hy9, rfl, hb9⟩; obtain ⟨p9, c9, rfl⟩ := hy9.kids.slice; have hn9 : (w9.alloc (.cells #[.int .i8 0, .int .i64 0, .string ⟨#[]⟩, .string ⟨#[]⟩, .slice none 0 0] 37)).heap[w9.heap.size]? = some (.cells (cells5 zeroT (.slice none 0 0)) 37 (0, 0)) := heap_new w9 _)
            | (refine wpList_store_row rfl 37 _ _ rfl w9.heap.size (cells5 zeroT (.slice p9 zeroT.l.length c9)) (by kernel_rfl) (by kernel_rfl) 37 (cells5 zeroT (.slice none 0 0)) hn9 (size28 _ _) (by kernel_rfl) (by kernel_rfl) ?_))
          have hb910 := below_setRow (g := w9.heap.size) (cells := cells5 zeroT (.slice p9 zeroT.l.length c9)) (alloc_below w9 (.cells #[.int .i8 0, .int .i64 0, .string ⟨#[]⟩, .string ⟨#[]⟩, .slice none 0 0] 37)) (Nat.le_refl _)
          generalize (w9.alloc (.cells #[.int .i8 0, .int .i64 0, .string ⟨#[]⟩, .string ⟨#[]⟩, .slice none 0 0] 37)).setRow w9.heap.size (cells5 zeroT (.slice p9 zeroT.l.length c9)) = w10 at hb910 ⊢
          have hB9 := hBr.trans (hb9.mono hBr.size)
          have hB10 := hB9.trans (hb910.mono hB9.size)
          have hz10 := HT.out w10 hB10
          clear hn9
          go_wp2_with (refine wpList_store_row rfl 37 _ _ rfl (w.heap.size + 1) (cells5 zeroT (.slice none 0 0)) (by kernel_rfl) (by kernel_rfl) 37 (cells5 zeroT (.slice none 0 0)) hz10 (size28 _ _) (by kernel_rfl) (by kernel_rfl) ?_)
          obtain ⟨hr, hpost⟩ := HZERO.out _ _ hB10 HST.out
          exact bodyPost_ret (v := .tuple #[.agg (cells5 zeroT (.slice none 0 0)), .int .i64 2]) (results_term Tryz.results20 _ _ _ _ _ rfl hr) rfl hpost
        | some y0 =>
          have HNX := hnext y0 hf
          rw [hf] at cF
          simp only [Option.isSome_some, Option.getD_some] at cF
          clear hstop hnext hf
          go_upto_region 9 with (first
            | (go_at_call 74; refine cF.mono ?_; rintro e w9 ⟨y, yv, rfl, hy9, rfl, hb9⟩; obtain ⟨p9, c9, rfl⟩ := hy9.kids.slice; have hn9 : (w9.alloc (.cells #[.int .i8 0, .int .i64 0, .string ⟨#[]⟩, .string ⟨#[]⟩, .slice none 0 0] 37)).heap[w9.heap.size]? = some (.cells (cells5 zeroT (.slice none 0 0)) 37 (0, 0)) := heap_new w9 _)
            | (refine wpList_store_row rfl 37 _ _ rfl w9.heap.size (cells5 y (.slice p9 y.l.length c9)) (by kernel_rfl) (by kernel_rfl) 37 (cells5 zeroT (.slice none 0 0)) hn9 (size28 _ _) (by kernel_rfl) (by kernel_rfl) ?_))
          have hb910 := below_setRow (g := w9.heap.size) (cells := cells5 y (.slice p9 y.l.length c9)) (alloc_below w9 (.cells #[.int .i8 0, .int .i64 0, .string ⟨#[]⟩, .string ⟨#[]⟩, .slice none 0 0] 37)) (Nat.le_refl _)
          generalize (w9.alloc (.cells #[.int .i8 0, .int .i64 0, .string ⟨#[]⟩, .string ⟨#[]⟩, .slice none 0 0] 37)).setRow w9.heap.size (cells5 y (.slice p9 y.l.length c9)) = w10 at hb910 ⊢
          have hBr9 := hbr.trans (hb9.mono hbr.size)
          have hBr10 := hBr9.trans (hb910.mono hBr9.size)
          clear hn9
          go_wp2
          go_roundw
          case rel => exact ⟨k + 1, hlt, by go_num, HNX.out, hBr10⟩
          case measure => simp [intOf]; omega
      · have d5 : (p.pre[k].k == 5) = false := by simpa using h5
        have HNX : Hid ((p.pre.take (k + 1)).any (lackV l) = false) := any_take (P := lackV l) hlt hall (by unfold lackV; rw [d5]; rfl)
        clear hall h5 e1 e2 e3 e4
        go_wp2
        go_roundw
        case rel => exact ⟨k + 1, hlt, by go_num, HNX.out, hbr⟩
        case measure => simp [intOf]; omega
    · rw [List.take_of_length_le (by omega)] at hall
      have HS3 := Lib.hid (HS2.out.trans (by rw [hall]; rfl : _ = if 256 < (p.rfil l).sz 257 then ((zeroT, 11) : Tr × Int) else (p.rfil l, 0)))
      have cR := rfill_any p (fun g => (F g ∧ g < w.heap.size) ∨ wr.heap.size ≤ g) l wr _ _ (fun k hk => .inr hk) ((HP.out.below hBr).mono fun g hg _ => .inl hg) ((HB.out.under hBr).mono fun g hg _ => .inl hg) (by omega)
      obtain ⟨b0, b1, b2, b3, b4⟩ := HN.out wr hBr
      simp only [Nat.zero_add] at b1 b2 b3 b4
      generalize p.rfil l = y at cR HS3
      clear hall
      go_upto_region 12 with (first
        | (go_at_call 75; refine cR.mono ?_; rintro e w9 ⟨yv, rfl, hy9, hb9⟩; obtain ⟨p9, c9, rfl⟩ := hy9.kids.slice; have hn9 : (w9.alloc (.cells #[.int .i8 0, .int .i64 0, .string ⟨#[]⟩, .string ⟨#[]⟩, .slice none 0 0] 37)).heap[w9.heap.size]? = some (.cells (cells5 zeroT (.slice none 0 0)) 37 (0, 0)) := heap_new w9 _)
        | (refine wpList_store_row rfl 37 _ _ rfl w9.heap.size (cells5 y (.slice p9 y.l.length c9)) (by kernel_rfl) (by kernel_rfl) 37 (cells5 zeroT (.slice none 0 0)) hn9 (size28 _ _) (by kernel_rfl) (by kernel_rfl) ?_))
      have hr10 := setRow_heap' (cells := cells5 y (.slice p9 y.l.length c9)) hn9
      have hb910 := below_setRow (g := w9.heap.size) (cells := cells5 y (.slice p9 y.l.length c9)) (alloc_below w9 (.cells #[.int .i8 0, .int .i64 0, .string ⟨#[]⟩, .string ⟨#[]⟩, .slice none 0 0] 37)) (Nat.le_refl _)
      generalize (w9.alloc (.cells #[.int .i8 0, .int .i64 0, .string ⟨#[]⟩, .string ⟨#[]⟩, .slice none 0 0] 37)).setRow w9.heap.size (cells5 y (.slice p9 y.l.length c9)) = w10 at hr10 hb910 ⊢
      have hB9 := hBr.trans (hb9.mono hBr.size)
      have hB10 := hB9.trans (hb910.mono hB9.size)
      have hy10 := hy9.below hb910
      have hz10 := HT.out w10 hB10
      obtain ⟨d0, d1, d2, d3, d4⟩ := node_heap (x := y) hr10
      simp only [Nat.zero_add] at d1 d2 d3 d4
      have cS := rsize_any hy10
      have HY10 := Lib.hid hy10
      have hszr := hBr.size
      clear hn9 hy9 hr10 hy10 b0 b1 b2 b3 b4 cR hb9
      by_cases hs : 256 < y.sz 257
      · have HE : Hid (rfilS p l = (zeroT, 11)) := by unfold Hid; rw [HS3.out, if_pos hs]
        go_wp2_with (first
          | (go_at_call 76; refine cS.mono ?_; rintro e w11 ⟨rfl, hb11⟩; have hB11 := hB10.trans (hb11.mono hB10.size); have hz11 := HT.out w11 hB11)
          | (refine wpList_store_row rfl 37 _ _ rfl (w.heap.size + 1) (cells5 zeroT (.slice none 0 0)) (by kernel_rfl) (by kernel_rfl) 37 (cells5 zeroT (.slice none 0 0)) hz11 (size28 _ _) (by kernel_rfl) (by kernel_rfl) ?_))
        obtain ⟨hr, hpost⟩ := HZERO.out _ _ hB11 HE.out
        exact bodyPost_ret (v := .tuple #[.agg (cells5 zeroT (.slice none 0 0)), .int .i64 11]) (results_term Tryz.results20 _ _ _ _ _ rfl hr) rfl hpost
      · have HE : Hid (rfilS p l = (y, 0)) := by unfold Hid; rw [HS3.out, if_neg hs]
        have hle : y.sz 257 ≤ 256 := by omega
        clear hs
        go_wp2_with (first
          | (go_at_call 76; refine cS.mono ?_; rintro e w11 ⟨rfl, hb11⟩; have hB11 := hB10.trans (hb11.mono hB10.size); have hz11 := HT.out w11 hB11; have c0 := (hb11.cell (p := ⟨w9.heap.size, 0, none⟩) (cell_block d0)).trans d0; have c1 := (hb11.cell (p := ⟨w9.heap.size, 1, none⟩) (cell_block d1)).trans d1; have c2 := (hb11.cell (p := ⟨w9.heap.size, 2, none⟩) (cell_block d2)).trans d2; have c3 := (hb11.cell (p := ⟨w9.heap.size, 3, none⟩) (cell_block d3)).trans d3; have c4 := (hb11.cell (p := ⟨w9.heap.size, 4, none⟩) (cell_block d4)).trans d4)
          | (refine wpList_store_row rfl 37 _ _ rfl (w.heap.size + 1) (cells5 y (.slice p9 y.l.length c9)) (by kernel_rfl) (by kernel_rfl) 37 (cells5 zeroT (.slice none 0 0)) hz11 (size28 _ _) (by kernel_rfl) (by kernel_rfl) ?_))
        have hr := setRow_heap' (cells := cells5 y (.slice p9 y.l.length c9)) hz11
        have hfin : TrV F (w11.setRow (w.heap.size + 1) (cells5 y (.slice p9 y.l.length c9))) y (.slice p9 y.l.length c9) := by
          have hz := HZ.out
          refine (HY10.out.below hb11).move (fun g hg _ => setRow_ne ?_) fun g hg _ => hg.elim (fun h => h.1) fun h => HF.out g (by omega)
          rcases hg with h | h <;> omega
        exact bodyPost_ret (v := .tuple #[.agg (cells5 y (.slice p9 y.l.length c9)), .int .i64 0]) (results_term Tryz.results20 _ _ _ _ _ rfl hr) rfl ⟨y, _, 0, rfl, hfin, below_setRow (hb1.trans (hB11.mono hb1.size)) (by omega), HE.out⟩
end Go.Proofs.YtmnjcbjfkaoeaaaGreatDoor
