/-
  guard.Value. Conditions: the expression and the names lie as said.
-/
import Derived.Test.YtlhobpknflobgaaGreatDoorGv7
import Derived.Test.YtlhobpknflobgaaGreatDoorGi1
namespace Go.Proofs.YtlhobpknflobgaaGreatDoor
open Go.RowKit

theorem fits_nn {x : Tr} (h : fitsB x = true) : x.nn ≤ 4096 := by
  unfold fitsB at h
  simp only [Bool.and_eq_true, decide_eq_true_eq] at h
  have := sz_nn x 4097 (by omega) (by omega)
  omega
/-- What a guard expression tells, and whether it may be. -/
def valS (x : Tr) (l : List Bd) : Tr × Int := if (grdB x && gmayB l) = true then (match x.gval l with | some y => (y, (0 : Int)) | none => (zeroT, 93)) else (zeroT, 2)

set_option maxHeartbeats 8000000 in
set_option maxRecDepth 100000 in
theorem gVal_any {F : Nat → Prop} {x : Tr} {l : List Bd} {w : World} {sv v : Value} (hL : Letters w) (hF : ∀ g, w.heap.size ≤ g → F g) (hx : TrV F w x sv) (hl : Binds F w v l) :
    Calls Tryz.prog 21 #[.agg #[.int .i8 x.k, .int .i64 x.n, .string x.s, .string x.t, sv], v] w (MadeSays F (valS x l) w) := by
  obtain ⟨p, c, rfl⟩ := hx.kids.slice
  obtain ⟨pl, cl, rfl⟩ := hl.slice
  obtain ⟨n1, n2, hb1, hz1⟩ := two_new w (.cells #[.int .i8 x.k, .int .i64 x.n, .string x.s, .string x.t, .slice p x.l.length c] 25) (.cells (cells5 zeroT (.slice none 0 0)) 29)
  have HZ1 := Lib.hid hz1
  have HX := Lib.hid (hx.mono (P' := fun g => F g ∧ g ≠ w.heap.size + 1) fun g hg h => ⟨hg, by omega⟩)
  have HB := Lib.hid (hl.mono (F' := fun g => F g ∧ g ≠ w.heap.size + 1) fun g hg h => ⟨hg, by omega⟩)
  have HL := Lib.hid hL
  have HF := Lib.hid hF
  clear hx hl hL hF hz1
  go_enter Tryz.func21, Tryz.ntmps21
  go_upto_region 1 with fail
  change Code.wp _ _ _ _ ((w.alloc (.cells #[.int .i8 x.k, .int .i64 x.n, .string x.s, .string x.t, .slice p x.l.length c] 25)).alloc (.cells (cells5 zeroT (.slice none 0 0)) 29))
  generalize (w.alloc (.cells #[.int .i8 x.k, .int .i64 x.n, .string x.s, .string x.t, .slice p x.l.length c] 25)).alloc (.cells (cells5 zeroT (.slice none 0 0)) 29) = w1 at n1 n2 hb1 HZ1 ⊢
  have hlt : w.heap.size + 1 < w1.heap.size := by have := HZ1.out; omega
  have hnode : NodeAt w1 w.heap.size 0 x (.slice p x.l.length c) := node_heap n1
  have cG := guarded_any (HL.out.under hb1) (HX.out.below hb1)
  have cM := fun (W : World) (hb : Below w1.heap.size w1 W) => gmay_any (HL.out.under (hb1.trans (hb.mono hb1.size))) (HB.out.under (hb1.trans (hb.mono hb1.size)))
  obtain ⟨a0, a1, a2, a3, a4⟩ := node_heap n1
  simp only [Nat.zero_add] at a1 a2 a3 a4
  have HN2 := Lib.hid n2
  have HLT := Lib.hid hlt
  have HND := Lib.hid hnode
  obtain ⟨vs, hvs⟩ : ∃ vs, valS x l = vs := ⟨_, rfl⟩
  have HV := Lib.hid (hvs.symm.trans (show valS x l = if (grdB x && gmayB l) = true then (match x.gval l with | some y => (y, (0 : Int)) | none => (zeroT, 93)) else (zeroT, 2) from rfl))
  have HV2 := Lib.hid hvs
  clear n1 n2 hlt hnode hvs
  cases hg : grdB x
  · rw [hg] at cG
    have HE : Hid (vs = (zeroT, 2)) := by unfold Hid; rw [HV.out, hg]; rfl
    clear hg cM
    go_wp2_with (first
      | (go_at_call 60; refine cG.mono ?_; rintro e w5 ⟨rfl, hb5⟩; have hn5 := (hb5.block _ HLT.out).trans HN2.out)
      | (refine wpList_store_row rfl 29 _ _ rfl (w.heap.size + 1) (cells5 zeroT (.slice none 0 0)) (by kernel_rfl) (by kernel_rfl) 29 (cells5 zeroT (.slice none 0 0)) hn5 (size28 _ _) (by kernel_rfl) (by kernel_rfl) ?_))
    have hr9 := setRow_heap' (cells := cells5 zeroT (.slice none 0 0)) hn5
    have hB9 := below_setRow (g := w.heap.size + 1) (cells := cells5 zeroT (.slice none 0 0)) (hb1.trans (hb5.mono hb1.size)) (by omega)
    exact bodyPost_ret (v := .tuple #[.agg (cells5 zeroT (.slice none 0 0)), .int .i64 2]) (results_term Tryz.results21 _ _ _ _ _ rfl hr9) rfl ⟨zeroT, _, 2, rfl, zero_trv _ _, hB9, (HV2.out.trans HE.out).symm⟩
  rw [hg] at cG
  cases hm : gmayB l
  · have HE : Hid (vs = (zeroT, 2)) := by unfold Hid; rw [HV.out, hg, hm]; rfl
    rw [hm] at cM
    clear hg hm
    go_wp2_with (first
      | (go_at_call 60; refine cG.mono ?_; rintro e w5 ⟨rfl, hb5⟩)
      | (go_at_call 55; refine (cM _ hb5).mono ?_; rintro e w6 ⟨rfl, hb6⟩; have hB6 := hb5.trans (hb6.mono hb5.size); have hn5 := (hB6.block _ HLT.out).trans HN2.out)
      | (refine wpList_store_row rfl 29 _ _ rfl (w.heap.size + 1) (cells5 zeroT (.slice none 0 0)) (by kernel_rfl) (by kernel_rfl) 29 (cells5 zeroT (.slice none 0 0)) hn5 (size28 _ _) (by kernel_rfl) (by kernel_rfl) ?_))
    have hr9 := setRow_heap' (cells := cells5 zeroT (.slice none 0 0)) hn5
    have hB9 := below_setRow (g := w.heap.size + 1) (cells := cells5 zeroT (.slice none 0 0)) (hb1.trans (hB6.mono hb1.size)) (by omega)
    exact bodyPost_ret (v := .tuple #[.agg (cells5 zeroT (.slice none 0 0)), .int .i64 2]) (results_term Tryz.results21 _ _ _ _ _ rfl hr9) rfl ⟨zeroT, _, 2, rfl, zero_trv _ _, hB9, (HV2.out.trans HE.out).symm⟩
  rw [hm] at cM
  have hfg : fitsB x = true ∧ x.grd = true := by simpa [grdB] using hg
  have hnn := fits_nn hfg.1
  have cV := fun (W : World) (hb : Below w1.heap.size w1 W) => gvalue_any (F := fun g => F g ∧ g ≠ w.heap.size + 1) (HL.out.under (hb1.trans (hb.mono hb1.size))) (fun g hg => ⟨HF.out g (by have := hb.size; have := HLT.out; omega), by have := hb.size; have := HLT.out; omega⟩) (HND.out.keep (hb.block _ HND.out.lt)) (HX.out.below (hb1.trans (hb.mono hb1.size))) (HB.out.under (hb1.trans (hb.mono hb1.size))) hfg.2 hm (by omega)
  have HE : Hid (vs = match x.gval l with | some y => (y, (0 : Int)) | none => (zeroT, 93)) := by unfold Hid; rw [HV.out, hg, hm]; rfl
  clear hg hm hfg hnn
  generalize x.gval l = oo at cV HE
  go_upto_region 4 with (first
    | (go_at_call 60; refine cG.mono ?_; rintro e w5 ⟨rfl, hb5⟩)
    | (go_at_call 55; refine (cM _ hb5).mono ?_; rintro e w6 ⟨rfl, hb6⟩; have hB6 := hb5.trans (hb6.mono hb5.size))
    | (go_at_call 61; refine (cV _ hB6).mono ?_; rintro e w7 ⟨y, yv, ev, rfl, hy7, hb7, hc7⟩; obtain ⟨p7, c7, rfl⟩ := hy7.kids.slice; have hB7 := hB6.trans (hb7.mono hB6.size); have hn7 := heap_new w7 (.cells (cells5 zeroT (.slice none 0 0)) 29); have HC7 := Lib.hid hc7; clear hc7)
    | (refine wpList_store_row rfl 29 _ _ rfl w7.heap.size (cells5 y (.slice p7 y.l.length c7)) (by kernel_rfl) (by kernel_rfl) 29 (cells5 zeroT (.slice none 0 0)) hn7 (size28 _ _) (by kernel_rfl) (by kernel_rfl) ?_))
  have hn8 := setRow_heap' (cells := cells5 y (.slice p7 y.l.length c7)) hn7
  have hb78 := below_setRow (g := w7.heap.size) (cells := cells5 y (.slice p7 y.l.length c7)) (alloc_below w7 (.cells (cells5 zeroT (.slice none 0 0)) 29)) (Nat.le_refl _)
  have hy8 := ((hy7.mono (P' := fun g => (F g ∧ g ≠ w.heap.size + 1) ∧ g < w7.heap.size) fun g hg hl => ⟨hg, hl⟩).below (alloc_below w7 (.cells (cells5 zeroT (.slice none 0 0)) 29))).move (P' := fun g => F g ∧ g ≠ w.heap.size + 1) (w' := (w7.alloc (.cells (cells5 zeroT (.slice none 0 0)) 29)).setRow w7.heap.size (cells5 y (.slice p7 y.l.length c7))) (fun g hg _ => setRow_ne (by omega)) (fun g hg _ => hg.1)
  have HC8 : Hid ((ev = .nilIface ∧ oo = some y) ∨ ((∃ k, JoinAt ((w7.alloc (.cells (cells5 zeroT (.slice none 0 0)) 29)).setRow w7.heap.size (cells5 y (.slice p7 y.l.length c7))) ev 93 k) ∧ oo = none)) := by
    rcases HC7.out with h | ⟨⟨k, hj⟩, h⟩
    · exact .inl h
    · exact .inr ⟨⟨k, (hj.under (alloc_below w7 _)).setRow hn7⟩, h⟩
  change Code.wp _ _ _ _ ((w7.alloc (.cells (cells5 zeroT (.slice none 0 0)) 29)).setRow w7.heap.size (cells5 y (.slice p7 y.l.length c7)))
  generalize (w7.alloc (.cells (cells5 zeroT (.slice none 0 0)) 29)).setRow w7.heap.size (cells5 y (.slice p7 y.l.length c7)) = w8 at hn8 hb78 hy8 HC8 ⊢
  have hB8 := hB7.trans (hb78.mono hB7.size)
  have hr8 := (hB8.block _ HLT.out).trans HN2.out
  have hBW := hb1.trans (hB8.mono hb1.size)
  clear cG cM cV hn7 hy7 HC7 a0 a1 a2 a3 a4
  obtain ⟨d0, d1, d2, d3, d4⟩ := node_heap (x := y) hn8
  simp only [Nat.zero_add] at d1 d2 d3 d4
  rcases HC8.out with ⟨hev, hoo⟩ | ⟨⟨k, hj⟩, hoo⟩
  · subst hev
    have HO := Lib.hid hoo
    clear hoo HC8
    have cI := isFalse_any w8
    go_wp2_with (first
      | (go_at_call 62; refine cI.mono ?_; rintro e w9 ⟨rfl, h9⟩; have h9 := h9.symm; subst h9)
      | (refine wpList_store_row rfl 29 _ _ rfl (w.heap.size + 1) (cells5 y (.slice p7 y.l.length c7)) (by kernel_rfl) (by kernel_rfl) 29 (cells5 zeroT (.slice none 0 0)) hr8 (size28 _ _) (by kernel_rfl) (by kernel_rfl) ?_))
    have hr9 := setRow_heap' (cells := cells5 y (.slice p7 y.l.length c7)) hr8
    have hB9 := below_setRow (g := w.heap.size + 1) (cells := cells5 y (.slice p7 y.l.length c7)) hBW (by omega)
    have hy9 := hy8.move (P' := F) (w' := w8.setRow (w.heap.size + 1) (cells5 y (.slice p7 y.l.length c7))) (fun g hg _ => setRow_ne hg.2) (fun g hg _ => hg.1)
    exact bodyPost_ret (v := .tuple #[.agg (cells5 y (.slice p7 y.l.length c7)), .int .i64 0]) (results_term Tryz.results21 _ _ _ _ _ rfl hr9) rfl ⟨y, _, 0, rfl, hy9, hB9, by rw [HV2.out, HE.out, HO.out]⟩
  · have HO := Lib.hid hoo
    have cI := isTrue_any hj
    obtain ⟨bj, gj, cj, rfl, _, _, _⟩ := hj
    clear hoo HC8
    go_wp2_with (first
      | (go_at_call 62; refine cI.mono ?_; rintro e w9 ⟨rfl, h9⟩; have h9 := h9.symm; subst h9)
      | (refine wpList_store_row rfl 29 _ _ rfl (w.heap.size + 1) (cells5 zeroT (.slice none 0 0)) (by kernel_rfl) (by kernel_rfl) 29 (cells5 zeroT (.slice none 0 0)) hr8 (size28 _ _) (by kernel_rfl) (by kernel_rfl) ?_))
    have hr9 := setRow_heap' (cells := cells5 zeroT (.slice none 0 0)) hr8
    have hB9 := below_setRow (g := w.heap.size + 1) (cells := cells5 zeroT (.slice none 0 0)) hBW (by omega)
    exact bodyPost_ret (v := .tuple #[.agg (cells5 zeroT (.slice none 0 0)), .int .i64 93]) (results_term Tryz.results21 _ _ _ _ _ rfl hr9) rfl ⟨zeroT, _, 93, rfl, zero_trv _ _, hB9, by rw [HV2.out, HE.out, HO.out]⟩
end Go.Proofs.YtlhobpknflobgaaGreatDoor
