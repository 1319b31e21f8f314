/-
  match.Fill. Conditions: the letters lie as 'Letters' says; the pattern lies as 'TrV' says, the names as 'Binds'.
-/
import Derived.Test.YtmnjcbjfkaoeaaaGreatDoorS22
namespace Go.Proofs.YtmnjcbjfkaoeaaaGreatDoor
open Go.RowKit

def FillPost (F : Nat → Prop) (q : Tr × Int) (w : World) (e : Ending) (w' : World) : Prop :=
  ∃ (y : Tr) (yv : Value) (er : Int), e = .returned (.tuple #[.agg #[.int .i8 y.k, .int .i64 y.n, .string y.s, .string y.t, yv], .int .i64 er]) ∧ TrV F w' y yv ∧ Below w.heap.size w w' ∧ q = (y, er)

set_option maxHeartbeats 4000000 in
set_option maxRecDepth 100000 in
theorem mFill_any {F : Nat → Prop} {p : Tr} {l : List Bd} {w : World} {pv v : Value} (hL : Letters w) (hF : ∀ k, w.heap.size ≤ k → F k) (hp : TrV F w p pv) (hl : Binds F w v l) :
    Calls Tryz.prog 19 #[.agg #[.int .i8 p.k, .int .i64 p.n, .string p.s, .string p.t, pv], v] w (FillPost F (filS p l) w) := by
  obtain ⟨p1, c1, rfl⟩ := hp.kids.slice
  obtain ⟨pl, cl, rfl⟩ := hl.slice
  obtain ⟨n1, n2, hb1, hz1⟩ := two_new w (.cells #[.int .i8 p.k, .int .i64 p.n, .string p.s, .string p.t, .slice p1 p.l.length c1] 31) (.cells #[.int .i8 0, .int .i64 0, .string ⟨#[]⟩, .string ⟨#[]⟩, .slice none 0 0] 37)
  have hp0 : TrV (fun g => F g ∧ g < w.heap.size) w p (.slice p1 p.l.length c1) := hp.mono fun g hg h => ⟨hg, h⟩
  have hl0 : Binds (fun g => F g ∧ g < w.heap.size) w (.slice pl l.length cl) l := hl.mono fun g hg h => ⟨hg, h⟩
  have hSS : filS p l = if (!patB p || !mayB l) = true then ((zeroT, 2) : Tr × Int) else match p.fil l with
    | none => ((zeroT, 2) : Tr × Int)
    | some y => if 256 < y.sz 257 then ((zeroT, 11) : Tr × Int) else (y, 0) := rfl
  have HS := Lib.hid hSS
  have HF := Lib.hid hF
  have HL := Lib.hid (hL.under hb1)
  have HP := Lib.hid (hp0.below hb1)
  have HB := Lib.hid (hl0.under hb1)
  clear hL hp hl hp0 hl0 hSS hF
  go_enter Tryz.func19, Tryz.ntmps19
  go_upto_region 1 with fail
  generalize (w.alloc (.cells #[.int .i8 p.k, .int .i64 p.n, .string p.s, .string p.t, .slice p1 p.l.length c1] 31)).alloc (.cells #[.int .i8 0, .int .i64 0, .string ⟨#[]⟩, .string ⟨#[]⟩, .slice none 0 0] 37) = w1 at n1 n2 hb1 hz1 HL HP HB ⊢
  have HZ := Lib.hid hz1
  have hN : ∀ W, Below w1.heap.size w1 W → NodeAt W w.heap.size 0 p (.slice p1 p.l.length c1) := fun W hb => node_heap ((hb.block _ (show w.heap.size < w1.heap.size by omega)).trans n1)
  have hT : ∀ W, Below w1.heap.size w1 W → W.heap[w.heap.size + 1]? = some (.cells (cells5 zeroT (.slice none 0 0)) 37 (0, 0)) := fun W hb => (hb.block _ (show w.heap.size + 1 < w1.heap.size by omega)).trans n2
  have HN := Lib.hid hN
  have HT := Lib.hid hT
  obtain ⟨a0, a1, a2, a3, a4⟩ := hN w1 (Below.refl _ _)
  simp only [Nat.zero_add] at a1 a2 a3 a4
  have cP := pattern_any HL.out HP.out
  have cM := fun (W : World) (hb : Below w1.heap.size w1 W) => bmay_any (HL.out.under hb) (HB.out.under hb)
  clear hz1 n1 n2 hN hT
  -- a store of nothing
  have hzero : ∀ (W : World) (er : Int), Below w1.heap.size w1 W → filS p l = (zeroT, er) → (W.setRow (w.heap.size + 1) (cells5 zeroT (.slice none 0 0))).heap[w.heap.size + 1]? = some (.cells (cells5 zeroT (.slice none 0 0)) 37 (0, 0)) ∧ FillPost F (filS p l) w (.returned (.tuple #[.agg (cells5 zeroT (.slice none 0 0)), .int .i64 er])) (W.setRow (w.heap.size + 1) (cells5 zeroT (.slice none 0 0))) := fun W er hb he =>
    ⟨setRow_heap' (HT.out W hb), ⟨zeroT, _, er, rfl, zero_trv _ _, below_setRow (hb1.trans (hb.mono hb1.size)) (by omega), he⟩⟩
  have HZERO := Lib.hid hzero
  clear hzero
  cases e1 : patB p
  · have HE : Hid (filS p l = (zeroT, 2)) := by unfold Hid; rw [HS.out, e1]; rfl
    rw [e1] at cP
    clear cM e1
    go_wp2_with (first
      | (go_at_call 63; refine cP.mono ?_; rintro e w5 ⟨rfl, hb5⟩; have hz5 := HT.out w5 hb5)
      | (refine wpList_store_row rfl 37 _ _ rfl (w.heap.size + 1) (cells5 zeroT (.slice none 0 0)) (by kernel_rfl) (by kernel_rfl) 37 (cells5 zeroT (.slice none 0 0)) hz5 (size28 _ _) (by kernel_rfl) (by kernel_rfl) ?_))
    obtain ⟨hr, hpost⟩ := HZERO.out _ _ hb5 HE.out
    exact bodyPost_ret (v := .tuple #[.agg (cells5 zeroT (.slice none 0 0)), .int .i64 2]) (results_term Tryz.results19 _ _ _ _ _ rfl hr) rfl hpost
  rw [e1] at cP
  cases e2 : mayB l
  · have HE : Hid (filS p l = (zeroT, 2)) := by unfold Hid; rw [HS.out, e1, e2]; rfl
    rw [e2] at cM
    clear e1 e2
    go_wp2_with (first
      | (go_at_call 63; refine cP.mono ?_; rintro e w5 ⟨rfl, hb5⟩)
      | (go_at_call 60; refine (cM _ hb5).mono ?_; rintro e w6 ⟨rfl, hb6⟩; have hB6 := hb5.trans (hb6.mono hb5.size); have hz6 := HT.out w6 hB6)
      | (refine wpList_store_row rfl 37 _ _ rfl (w.heap.size + 1) (cells5 zeroT (.slice none 0 0)) (by kernel_rfl) (by kernel_rfl) 37 (cells5 zeroT (.slice none 0 0)) hz6 (size28 _ _) (by kernel_rfl) (by kernel_rfl) ?_))
    obtain ⟨hr, hpost⟩ := HZERO.out _ _ hB6 HE.out
    exact bodyPost_ret (v := .tuple #[.agg (cells5 zeroT (.slice none 0 0)), .int .i64 2]) (results_term Tryz.results19 _ _ _ _ _ rfl hr) rfl hpost
  rw [e2] at cM
  have HS2 := Lib.hid (HS.out.trans (by rw [e1, e2]; rfl : _ = match p.fil l with
    | none => ((zeroT, 2) : Tr × Int)
    | some y => if 256 < y.sz 257 then ((zeroT, 11) : Tr × Int) else (y, 0)))
  have HPAT := Lib.hid (patB_pat e1)
  have HNN := Lib.hid (pat_nn e1)
  clear e1 e2
  have cF := fun (W : World) (hb : Below w1.heap.size w1 W) => mfill_any p (fun g => (F g ∧ g < w.heap.size) ∨ W.heap.size ≤ g) l W _ _ (fun k hk => .inr hk) ((HP.out.below hb).mono fun g hg _ => .inl hg) ((HB.out.under hb).mono fun g hg _ => .inl hg) HPAT.out (by have := HNN.out; omega)
  go_upto_region 4 with (first
    | (go_at_call 63; refine cP.mono ?_; rintro e w5 ⟨rfl, hb5⟩)
    | (go_at_call 60; refine (cM _ hb5).mono ?_; rintro e w6 ⟨rfl, hb6⟩; have hB6 := hb5.trans (hb6.mono hb5.size); obtain ⟨b0, b1, b2, b3, b4⟩ := HN.out w6 hB6; simp only [Nat.zero_add] at b1 b2 b3 b4)
    | (go_at_call 71; refine (cF _ hB6).mono ?_; rintro e w7 ⟨y, yv, er, rfl, hy7, hb7, hcase⟩; obtain ⟨p5, c5, rfl⟩ := hy7.kids.slice; have hn7 : (w7.alloc (.cells #[.int .i8 0, .int .i64 0, .string ⟨#[]⟩, .string ⟨#[]⟩, .slice none 0 0] 37)).heap[w7.heap.size]? = some (.cells (cells5 zeroT (.slice none 0 0)) 37 (0, 0)) := heap_new w7 _)
    | (refine wpList_store_row rfl 37 _ _ rfl w7.heap.size (cells5 y (.slice p5 y.l.length c5)) (by kernel_rfl) (by kernel_rfl) 37 (cells5 zeroT (.slice none 0 0)) hn7 (size28 _ _) (by kernel_rfl) (by kernel_rfl) ?_))
  have hr8 := setRow_heap' (cells := cells5 y (.slice p5 y.l.length c5)) hn7
  have hB78 := below_setRow (g := w7.heap.size) (cells := cells5 y (.slice p5 y.l.length c5)) (alloc_below w7 (.cells #[.int .i8 0, .int .i64 0, .string ⟨#[]⟩, .string ⟨#[]⟩, .slice none 0 0] 37)) (Nat.le_refl _)
  generalize (w7.alloc (.cells #[.int .i8 0, .int .i64 0, .string ⟨#[]⟩, .string ⟨#[]⟩, .slice none 0 0] 37)).setRow w7.heap.size (cells5 y (.slice p5 y.l.length c5)) = w8 at hr8 hB78 ⊢
  have hB7 := hB6.trans (hb7.mono hB6.size)
  have hB8 := hB7.trans (hB78.mono hB7.size)
  have hy8 := hy7.below hB78
  have hz8 := HT.out w8 hB8
  have hsz6 := hB6.size
  obtain ⟨d0, d1, d2, d3, d4⟩ := node_heap (x := y) hr8
  simp only [Nat.zero_add] at d1 d2 d3 d4
  have cS := tsize_any hy8
  have HY8 := Lib.hid hy8
  clear hn7 hy7 cF cM cP hr8 hy8 hb7 hb6 hb5
  rcases hcase with ⟨rfl, hf⟩ | ⟨rfl, hf⟩
  · by_cases hs : 256 < y.sz 257
    · have HE : Hid (filS p l = (zeroT, 11)) := by unfold Hid; rw [HS2.out, hf]; simp only; rw [if_pos hs]
      clear hf
      go_wp2_with (first
        | (go_at_call 72; refine cS.mono ?_; rintro e w9 ⟨rfl, hb9⟩; have hB9 := hB8.trans (hb9.mono hB8.size); have hz9 := HT.out w9 hB9)
        | (refine wpList_store_row rfl 37 _ _ rfl (w.heap.size + 1) (cells5 zeroT (.slice none 0 0)) (by kernel_rfl) (by kernel_rfl) 37 (cells5 zeroT (.slice none 0 0)) hz9 (size28 _ _) (by kernel_rfl) (by kernel_rfl) ?_))
      obtain ⟨hr, hpost⟩ := HZERO.out _ _ hB9 HE.out
      exact bodyPost_ret (v := .tuple #[.agg (cells5 zeroT (.slice none 0 0)), .int .i64 11]) (results_term Tryz.results19 _ _ _ _ _ rfl hr) rfl hpost
    · have HE : Hid (filS p l = (y, 0)) := by unfold Hid; rw [HS2.out, hf]; simp only; rw [if_neg hs]
      have hle : y.sz 257 ≤ 256 := by omega
      clear hf hs
      go_wp2_with (first
        | (go_at_call 72; refine cS.mono ?_; rintro e w9 ⟨rfl, hb9⟩; have hB9 := hB8.trans (hb9.mono hB8.size); have hz9 := HT.out w9 hB9; have c0 := (hb9.cell (p := ⟨w7.heap.size, 0, none⟩) (cell_block d0)).trans d0; have c1 := (hb9.cell (p := ⟨w7.heap.size, 1, none⟩) (cell_block d1)).trans d1; have c2 := (hb9.cell (p := ⟨w7.heap.size, 2, none⟩) (cell_block d2)).trans d2; have c3 := (hb9.cell (p := ⟨w7.heap.size, 3, none⟩) (cell_block d3)).trans d3; have c4 := (hb9.cell (p := ⟨w7.heap.size, 4, none⟩) (cell_block d4)).trans d4)
        | (refine wpList_store_row rfl 37 _ _ rfl (w.heap.size + 1) (cells5 y (.slice p5 y.l.length c5)) (by kernel_rfl) (by kernel_rfl) 37 (cells5 zeroT (.slice none 0 0)) hz9 (size28 _ _) (by kernel_rfl) (by kernel_rfl) ?_))
      have hr := setRow_heap' (cells := cells5 y (.slice p5 y.l.length c5)) hz9
      have hfin : TrV F (w9.setRow (w.heap.size + 1) (cells5 y (.slice p5 y.l.length c5))) y (.slice p5 y.l.length c5) := by
        have hz := HZ.out
        refine (HY8.out.below hb9).move (fun g hg _ => setRow_ne ?_) fun g hg _ => hg.elim (fun h => h.1) fun h => HF.out g (by omega)
        rcases hg with h | h <;> omega
      exact bodyPost_ret (v := .tuple #[.agg (cells5 y (.slice p5 y.l.length c5)), .int .i64 0]) (results_term Tryz.results19 _ _ _ _ _ rfl hr) rfl ⟨y, _, 0, rfl, hfin, below_setRow (hb1.trans (hB9.mono hb1.size)) (by omega), HE.out⟩
  · have HE : Hid (filS p l = (zeroT, 2)) := by unfold Hid; rw [HS2.out, hf]
    clear hf cS
    go_wp2_with (refine wpList_store_row rfl 37 _ _ rfl (w.heap.size + 1) (cells5 zeroT (.slice none 0 0)) (by kernel_rfl) (by kernel_rfl) 37 (cells5 zeroT (.slice none 0 0)) hz8 (size28 _ _) (by kernel_rfl) (by kernel_rfl) ?_)
    obtain ⟨hr, hpost⟩ := HZERO.out _ _ hB8 HE.out
    exact bodyPost_ret (v := .tuple #[.agg (cells5 zeroT (.slice none 0 0)), .int .i64 2]) (results_term Tryz.results19 _ _ _ _ _ rfl hr) rfl hpost
end Go.Proofs.YtmnjcbjfkaoeaaaGreatDoor
