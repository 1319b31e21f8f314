/-
  pleachlaw11.GuardTells holds. Conditions: the tree lies as 'TrV' says, the names as 'Binds' says; the table of letters is as it was laid.
-/
import Derived.Test.YtlhobpknflobgaaGreatDoorT05
import Derived.Test.YtlhobpknflobgaaGreatDoorGx2
namespace Go.Proofs.YtlhobpknflobgaaGreatDoor
open Go.RowKit

set_option maxHeartbeats 16000000 in
set_option maxRecDepth 100000 in
theorem guardTells_any {w : World} {x : Tr} {l : List Bd} {s : ByteArray} {xv v : Value} (hL : Letters w) (hx : TrV (fun _ => True) w x xv) (hl : Binds (fun _ => True) w v l) :
    Calls Tryz.prog 4 #[.agg #[.int .i8 x.k, .int .i64 x.n, .string x.s, .string x.t, xv], v, .string s] w fun e w' => e = .returned (.bool true) ∧ Below w.heap.size w w' := by
  obtain ⟨p, c, rfl⟩ := hx.kids.slice
  obtain ⟨pl, cl, rfl⟩ := hl.slice
  have hb1 := alloc_below w (.cells #[.int .i8 x.k, .int .i64 x.n, .string x.s, .string x.t, .slice p x.l.length c] 25)
  have n1 := heap_new w (.cells #[.int .i8 x.k, .int .i64 x.n, .string x.s, .string x.t, .slice p x.l.length c] 25)
  have HL := Lib.hid hL
  have HX := Lib.hid (hx.below hb1)
  have HS := Lib.hid (hl.under hb1)
  clear hx hl hL
  go_enter Tryz.func4, Tryz.ntmps4
  go_upto_region 1 with fail
  change Code.wp _ _ _ _ (w.alloc (.cells #[.int .i8 x.k, .int .i64 x.n, .string x.s, .string x.t, .slice p x.l.length c] 25))
  generalize w.alloc (.cells #[.int .i8 x.k, .int .i64 x.n, .string x.s, .string x.t, .slice p x.l.length c] 25) = w1 at n1 hb1 HX HS ⊢
  have HXC := Lib.hid (fun (V : World) (hv : Below w1.heap.size w1 V) => Lib.hid (show V.cell? ⟨w.heap.size, 0, none⟩ = some (.int .i8 x.k) ∧ V.cell? ⟨w.heap.size, 1, none⟩ = some (.int .i64 x.n) ∧ V.cell? ⟨w.heap.size, 2, none⟩ = some (.string x.s) ∧ V.cell? ⟨w.heap.size, 3, none⟩ = some (.string x.t) ∧ V.cell? ⟨w.heap.size, 4, none⟩ = some (.slice p x.l.length c) from by
    have h1 := (hv.block _ (Array.getElem?_eq_some_iff.1 n1).1).trans n1
    exact ⟨(arr_cell h1).trans rfl, (arr_cell h1).trans rfl, (arr_cell h1).trans rfl, (arr_cell h1).trans rfl, (arr_cell h1).trans rfl⟩))
  have HN1 := Lib.hid n1
  have cW := fun (V : World) (hv : Below w1.heap.size w1 V) => wakes11_any (HL.out.under (hb1.trans (hv.mono hb1.size)))
  have rA := greatN_any HX.out
  have cG := fun (V : World) (hv : Below w1.heap.size w1 V) => great11_any (HS.out.under hv)
  obtain ⟨a0, a1, a2, a3, a4⟩ := (HXC.out _ (Below.refl _ _)).out
  clear n1
  generalize decide (8192 ≤ x.sz 8192) = ga at rA
  cases ga
  case' true =>
    go_wp2_with (first
      | (go_at_call 11; refine rA.mono ?_; rintro e w2 ⟨rfl, hb2⟩)
      | (go_at_call 16; refine (cW _ hb2).mono ?_; rintro e w19 ⟨rfl, hb19⟩))
    go_ret
    exact ⟨rfl, hb1.trans ((hb2.trans (hb19.mono hb2.size)).mono hb1.size)⟩
  generalize gr11 l = gl at cG
  cases gl
  case' true =>
    go_wp2_with (first
      | (go_at_call 11; refine rA.mono ?_; rintro e w2 ⟨rfl, hb2⟩)
      | (go_at_call 12; refine (cG _ hb2).mono ?_; rintro e w3 ⟨rfl, hb3⟩; have hB3 := hb2.trans (hb3.mono hb2.size); obtain ⟨d0, d1, d2, d3, d4⟩ := (HXC.out _ hB3).out)
      | (go_at_call 16; refine (cW _ hB3).mono ?_; rintro e w19 ⟨rfl, hb19⟩))
    go_ret
    exact ⟨rfl, hb1.trans ((hB3.trans (hb19.mono hB3.size)).mono hb1.size)⟩
  have kA := fun (V : World) (hv : Below w1.heap.size w1 V) => gVal_any (F := fun _ => True) (HL.out.under (hb1.trans (hv.mono hb1.size))) (fun _ _ => trivial) (HX.out.below hv) (HS.out.under hv)
  go_upto_region 4 with (first
    | (go_at_call 11; refine rA.mono ?_; rintro e w2 ⟨rfl, hb2⟩)
    | (go_at_call 12; refine (cG _ hb2).mono ?_; rintro e w3 ⟨rfl, hb3⟩; have hB3 := hb2.trans (hb3.mono hb2.size); obtain ⟨d0, d1, d2, d3, d4⟩ := (HXC.out _ hB3).out)
    | (go_at_call 21; refine (kA _ hB3).mono ?_; rintro e w5 ⟨yA, yvA, eA, rfl, hyA, hbA, hqA⟩; obtain ⟨pA, cA, rfl⟩ := hyA.kids.slice; have hzA := heap_new w5 (.cells (cells5 zeroT (.slice none 0 0)) 29); have HQA := Lib.hid hqA; clear hqA)
    | (refine wpList_store_row rfl 29 _ _ rfl w5.heap.size (cells5 yA (.slice pA yA.l.length cA)) (by kernel_rfl) (by kernel_rfl) 29 (cells5 zeroT (.slice none 0 0)) hzA (size28 _ _) (by kernel_rfl) (by kernel_rfl) ?_))
  have hbmA := below_setRow (g := w5.heap.size) (cells := (cells5 yA (.slice pA yA.l.length cA))) (alloc_below w5 (.cells (cells5 zeroT (.slice none 0 0)) 29)) (Nat.le_refl _)
  have hnA := setRow_heap' (cells := (cells5 yA (.slice pA yA.l.length cA))) hzA
  have hyyA := hyA.below hbmA
  change Code.wp _ _ _ _ ((w5.alloc (.cells (cells5 zeroT (.slice none 0 0)) 29)).setRow w5.heap.size (cells5 yA (.slice pA yA.l.length cA)))
  have hstA := hbA.trans (hbmA.mono hbA.size)
  have hB6 := hB3.trans (hstA.mono hB3.size)
  clear hzA hbmA hyA hbA
  generalize (w5.alloc (.cells (cells5 zeroT (.slice none 0 0)) 29)).setRow w5.heap.size (cells5 yA (.slice pA yA.l.length cA)) = w6 at hnA hB6 hyyA hstA ⊢
  obtain ⟨bA, hbb⟩ : ∃ b, w5.heap.size = b := ⟨_, rfl⟩
  rw [hbb] at hnA ⊢
  clear hbb
  have HNA := Lib.hid hnA
  have HYA := Lib.hid hyyA
  have HSTA := Lib.hid hstA
  clear hnA hyyA hstA
  have kB := rValue_any (F := fun _ => True) (fun _ _ => trivial) (HX.out.below hB6) (HS.out.under hB6)
  obtain ⟨f0, f1, f2, f3, f4⟩ := (HXC.out _ hB6).out
  clear kA rA cG a0 a1 a2 a3 a4 d0 d1 d2 d3 d4
  go_upto_region 5 with (first
    | (go_at_call 22; refine (kB).mono ?_; rintro e w7 ⟨yB, yvB, eB, rfl, hyB, hbB, hqB⟩; obtain ⟨pB, cB, rfl⟩ := hyB.kids.slice; have hzB := heap_new w7 (.cells (cells5 zeroT (.slice none 0 0)) 29); have HQB := Lib.hid hqB; clear hqB)
    | (refine wpList_store_row rfl 29 _ _ rfl w7.heap.size (cells5 yB (.slice pB yB.l.length cB)) (by kernel_rfl) (by kernel_rfl) 29 (cells5 zeroT (.slice none 0 0)) hzB (size28 _ _) (by kernel_rfl) (by kernel_rfl) ?_))
  have hbmB := below_setRow (g := w7.heap.size) (cells := (cells5 yB (.slice pB yB.l.length cB))) (alloc_below w7 (.cells (cells5 zeroT (.slice none 0 0)) 29)) (Nat.le_refl _)
  have hnB := setRow_heap' (cells := (cells5 yB (.slice pB yB.l.length cB))) hzB
  have hyyB := hyB.below hbmB
  change Code.wp _ _ _ _ ((w7.alloc (.cells (cells5 zeroT (.slice none 0 0)) 29)).setRow w7.heap.size (cells5 yB (.slice pB yB.l.length cB)))
  have hstB := hbB.trans (hbmB.mono hbB.size)
  have hB8 := hB6.trans (hstB.mono hB6.size)
  clear hzB hbmB hyB hbB
  generalize (w7.alloc (.cells (cells5 zeroT (.slice none 0 0)) 29)).setRow w7.heap.size (cells5 yB (.slice pB yB.l.length cB)) = w8 at hnB hB8 hyyB hstB ⊢
  obtain ⟨bB, hbb⟩ : ∃ b, w7.heap.size = b := ⟨_, rfl⟩
  rw [hbb] at hnB ⊢
  clear hbb
  have HNB := Lib.hid hnB
  have HYB := Lib.hid hyyB
  have HSTB := Lib.hid hstB
  clear hnB hyyB hstB
  have kC := gfind_any (s := s) (HS.out.under hB8)
  clear kB f0 f1 f2 f3 f4
  go_upto_region 6 with (first
    | (go_at_call 23; refine (kC).mono ?_; rintro e w9 ⟨yC, yvC, rfl, hyC, hqC, hbC⟩; obtain ⟨pC, cC, rfl⟩ := hyC.kids.slice; have hzC := heap_new w9 (.cells (cells5 zeroT (.slice none 0 0)) 29); have HQC := Lib.hid hqC; clear hqC)
    | (refine wpList_store_row rfl 29 _ _ rfl w9.heap.size (cells5 yC (.slice pC yC.l.length cC)) (by kernel_rfl) (by kernel_rfl) 29 (cells5 zeroT (.slice none 0 0)) hzC (size28 _ _) (by kernel_rfl) (by kernel_rfl) ?_))
  have hbmC := below_setRow (g := w9.heap.size) (cells := (cells5 yC (.slice pC yC.l.length cC))) (alloc_below w9 (.cells (cells5 zeroT (.slice none 0 0)) 29)) (Nat.le_refl _)
  have hnC := setRow_heap' (cells := (cells5 yC (.slice pC yC.l.length cC))) hzC
  have hyyC := hyC.below hbmC
  change Code.wp _ _ _ _ ((w9.alloc (.cells (cells5 zeroT (.slice none 0 0)) 29)).setRow w9.heap.size (cells5 yC (.slice pC yC.l.length cC)))
  have hstC := hbC.trans (hbmC.mono hbC.size)
  have hB10 := hB8.trans (hstC.mono hB8.size)
  clear hzC hbmC hyC hbC
  generalize (w9.alloc (.cells (cells5 zeroT (.slice none 0 0)) 29)).setRow w9.heap.size (cells5 yC (.slice pC yC.l.length cC)) = w10 at hnC hB10 hyyC hstC ⊢
  obtain ⟨bC, hbb⟩ : ∃ b, w9.heap.size = b := ⟨_, rfl⟩
  rw [hbb] at hnC ⊢
  clear hbb
  have HNC := Lib.hid hnC
  have HYC := Lib.hid hyyC
  have HSTC := Lib.hid hstC
  clear hnC hyyC hstC
  have kD := rfind11_any (s := s) (HS.out.under hB10)
  clear kC
  go_upto_region 7 with (first
    | (go_at_call 24; refine (kD).mono ?_; rintro e w11 ⟨yD, yvD, rfl, hyD, hqD, hbD⟩; obtain ⟨pD, cD, rfl⟩ := hyD.kids.slice; have hzD := heap_new w11 (.cells (cells5 zeroT (.slice none 0 0)) 29); have HQD := Lib.hid hqD; clear hqD)
    | (refine wpList_store_row rfl 29 _ _ rfl w11.heap.size (cells5 yD (.slice pD yD.l.length cD)) (by kernel_rfl) (by kernel_rfl) 29 (cells5 zeroT (.slice none 0 0)) hzD (size28 _ _) (by kernel_rfl) (by kernel_rfl) ?_))
  have hbmD := below_setRow (g := w11.heap.size) (cells := (cells5 yD (.slice pD yD.l.length cD))) (alloc_below w11 (.cells (cells5 zeroT (.slice none 0 0)) 29)) (Nat.le_refl _)
  have hnD := setRow_heap' (cells := (cells5 yD (.slice pD yD.l.length cD))) hzD
  have hyyD := hyD.below hbmD
  change Code.wp _ _ _ _ ((w11.alloc (.cells (cells5 zeroT (.slice none 0 0)) 29)).setRow w11.heap.size (cells5 yD (.slice pD yD.l.length cD)))
  have hstD := hbD.trans (hbmD.mono hbD.size)
  have hB12 := hB10.trans (hstD.mono hB10.size)
  clear hzD hbmD hyD hbD
  generalize (w11.alloc (.cells (cells5 zeroT (.slice none 0 0)) 29)).setRow w11.heap.size (cells5 yD (.slice pD yD.l.length cD)) = w12 at hnD hB12 hyyD hstD ⊢
  obtain ⟨bD, hbb⟩ : ∃ b, w11.heap.size = b := ⟨_, rfl⟩
  rw [hbb] at hnD ⊢
  clear hbb
  have HND := Lib.hid hnD
  have HYD := Lib.hid hyyD
  have HSTD := Lib.hid hstD
  clear hnD hyyD hstD
  clear kD cW
  have hqAB := HQA.out.trans HQB.out.symm
  obtain ⟨hAB, hEE⟩ := Prod.mk.inj hqAB
  obtain rfl : yB = yA := hAB.symm
  obtain rfl : eB = eA := hEE.symm
  have hCD : yC = yD := HQC.out.trans HQD.out.symm
  subst hCD
  have HL12 := Lib.hid (HL.out.under (hb1.trans (hB12.mono hb1.size)))
  have HX12 := Lib.hid (HX.out.below hB12)
  have HS12 := Lib.hid (HS.out.under hB12)
  have s68 := HSTB.out
  have s810 := HSTC.out
  have s1012 := HSTD.out
  have HYA1 := Lib.hid ((HYA.out.below s68).below (s810.trans (s1012.mono s810.size)))
  have HYB1 := Lib.hid (HYB.out.below (s810.trans (s1012.mono s810.size)))
  have HYC1 := Lib.hid (HYC.out.below s1012)
  have hmv : ∀ V : World, Below w12.heap.size w12 V → V.cell? ⟨w.heap.size, 0, none⟩ = some (.int .i8 x.k) ∧ V.cell? ⟨w.heap.size, 1, none⟩ = some (.int .i64 x.n) ∧ V.cell? ⟨w.heap.size, 2, none⟩ = some (.string x.s) ∧ V.cell? ⟨w.heap.size, 3, none⟩ = some (.string x.t) ∧ V.cell? ⟨w.heap.size, 4, none⟩ = some (.slice p x.l.length c) ∧ V.cell? ⟨bA, 0, none⟩ = some (.int .i8 yB.k) ∧ V.cell? ⟨bA, 1, none⟩ = some (.int .i64 yB.n) ∧ V.cell? ⟨bA, 2, none⟩ = some (.string yB.s) ∧ V.cell? ⟨bA, 3, none⟩ = some (.string yB.t) ∧ V.cell? ⟨bA, 4, none⟩ = some (.slice pA yB.l.length cA) ∧ V.cell? ⟨bB, 0, none⟩ = some (.int .i8 yB.k) ∧ V.cell? ⟨bB, 1, none⟩ = some (.int .i64 yB.n) ∧ V.cell? ⟨bB, 2, none⟩ = some (.string yB.s) ∧ V.cell? ⟨bB, 3, none⟩ = some (.string yB.t) ∧ V.cell? ⟨bB, 4, none⟩ = some (.slice pB yB.l.length cB) ∧ V.cell? ⟨bC, 0, none⟩ = some (.int .i8 yC.k) ∧ V.cell? ⟨bC, 1, none⟩ = some (.int .i64 yC.n) ∧ V.cell? ⟨bC, 2, none⟩ = some (.string yC.s) ∧ V.cell? ⟨bC, 3, none⟩ = some (.string yC.t) ∧ V.cell? ⟨bC, 4, none⟩ = some (.slice pC yC.l.length cC) ∧ V.cell? ⟨bD, 0, none⟩ = some (.int .i8 yC.k) ∧ V.cell? ⟨bD, 1, none⟩ = some (.int .i64 yC.n) ∧ V.cell? ⟨bD, 2, none⟩ = some (.string yC.s) ∧ V.cell? ⟨bD, 3, none⟩ = some (.string yC.t) ∧ V.cell? ⟨bD, 4, none⟩ = some (.slice pD yC.l.length cD) := by
    intro V hv
    have k1 := (hB12.block _ (Array.getElem?_eq_some_iff.1 HN1.out).1).trans HN1.out
    have k2 := (s1012.block _ (Array.getElem?_eq_some_iff.1 ((s810.block _ (Array.getElem?_eq_some_iff.1 ((s68.block _ (Array.getElem?_eq_some_iff.1 HNA.out).1).trans HNA.out)).1).trans ((s68.block _ (Array.getElem?_eq_some_iff.1 HNA.out).1).trans HNA.out))).1).trans ((s810.block _ (Array.getElem?_eq_some_iff.1 ((s68.block _ (Array.getElem?_eq_some_iff.1 HNA.out).1).trans HNA.out)).1).trans ((s68.block _ (Array.getElem?_eq_some_iff.1 HNA.out).1).trans HNA.out))
    have k3' := (s810.block _ (Array.getElem?_eq_some_iff.1 HNB.out).1).trans HNB.out
    have k3 := (s1012.block _ (Array.getElem?_eq_some_iff.1 k3').1).trans k3'
    have k4 := (s1012.block _ (Array.getElem?_eq_some_iff.1 HNC.out).1).trans HNC.out
    have h1 := (hv.block _ (Array.getElem?_eq_some_iff.1 k1).1).trans k1
    have h2 := (hv.block _ (Array.getElem?_eq_some_iff.1 k2).1).trans k2
    have h3 := (hv.block _ (Array.getElem?_eq_some_iff.1 k3).1).trans k3
    have h4 := (hv.block _ (Array.getElem?_eq_some_iff.1 k4).1).trans k4
    have h5 := (hv.block _ (Array.getElem?_eq_some_iff.1 HND.out).1).trans HND.out
    exact ⟨(arr_cell h1).trans rfl, (arr_cell h1).trans rfl, (arr_cell h1).trans rfl, (arr_cell h1).trans rfl, (arr_cell h1).trans rfl, (arr_cell h2).trans rfl, (arr_cell h2).trans rfl, (arr_cell h2).trans rfl, (arr_cell h2).trans rfl, (arr_cell h2).trans rfl, (arr_cell h3).trans rfl, (arr_cell h3).trans rfl, (arr_cell h3).trans rfl, (arr_cell h3).trans rfl, (arr_cell h3).trans rfl, (arr_cell h4).trans rfl, (arr_cell h4).trans rfl, (arr_cell h4).trans rfl, (arr_cell h4).trans rfl, (arr_cell h4).trans rfl, (arr_cell h5).trans rfl, (arr_cell h5).trans rfl, (arr_cell h5).trans rfl, (arr_cell h5).trans rfl, (arr_cell h5).trans rfl⟩
  have hbd : Below w12.heap.size w12 w12.drew := below_drewN (Below.refl _ _) 1
  have hS0 := hmv w12 (Below.refl _ _)
  have cS1 := rsame_any yB yB w12.drew _ _ (HYA1.out.below hbd) (HYB1.out.below hbd)
  rw [same_self] at cS1
  obtain ⟨qT, hqT⟩ : ∃ q, testS x l = q := ⟨_, rfl⟩
  obtain ⟨qH, hqH⟩ : ∃ q, hldS x l = q := ⟨_, rfl⟩
  have HQT := Lib.hid hqT
  have HQH := Lib.hid hqH
  have tok1 : True := trivial
  obtain ⟨ok, hok⟩ : ∃ b, (bfind l s).isSome = b := ⟨_, rfl⟩
  rw [hok]
  clear hqAB hEE hAB hqT hqH s68 s810 s1012 hok
  refine wp_region_held_drew (S := fun V => V.cell? ⟨w.heap.size, 0, none⟩ = some (.int .i8 x.k) ∧ V.cell? ⟨w.heap.size, 1, none⟩ = some (.int .i64 x.n) ∧ V.cell? ⟨w.heap.size, 2, none⟩ = some (.string x.s) ∧ V.cell? ⟨w.heap.size, 3, none⟩ = some (.string x.t) ∧ V.cell? ⟨w.heap.size, 4, none⟩ = some (.slice p x.l.length c) ∧ V.cell? ⟨bA, 0, none⟩ = some (.int .i8 yB.k) ∧ V.cell? ⟨bA, 1, none⟩ = some (.int .i64 yB.n) ∧ V.cell? ⟨bA, 2, none⟩ = some (.string yB.s) ∧ V.cell? ⟨bA, 3, none⟩ = some (.string yB.t) ∧ V.cell? ⟨bA, 4, none⟩ = some (.slice pA yB.l.length cA) ∧ V.cell? ⟨bB, 0, none⟩ = some (.int .i8 yB.k) ∧ V.cell? ⟨bB, 1, none⟩ = some (.int .i64 yB.n) ∧ V.cell? ⟨bB, 2, none⟩ = some (.string yB.s) ∧ V.cell? ⟨bB, 3, none⟩ = some (.string yB.t) ∧ V.cell? ⟨bB, 4, none⟩ = some (.slice pB yB.l.length cB) ∧ V.cell? ⟨bC, 0, none⟩ = some (.int .i8 yC.k) ∧ V.cell? ⟨bC, 1, none⟩ = some (.int .i64 yC.n) ∧ V.cell? ⟨bC, 2, none⟩ = some (.string yC.s) ∧ V.cell? ⟨bC, 3, none⟩ = some (.string yC.t) ∧ V.cell? ⟨bC, 4, none⟩ = some (.slice pC yC.l.length cC) ∧ V.cell? ⟨bD, 0, none⟩ = some (.int .i8 yC.k) ∧ V.cell? ⟨bD, 1, none⟩ = some (.int .i64 yC.n) ∧ V.cell? ⟨bD, 2, none⟩ = some (.string yC.s) ∧ V.cell? ⟨bD, 3, none⟩ = some (.string yC.t) ∧ V.cell? ⟨bD, 4, none⟩ = some (.slice pD yC.l.length cD)) (by kernel_rfl) ?_ (fun hHeld => ?_)
  · (try dsimp only); (first | exact hS0 | exact hS7 | exact hS6 | exact hS5 | exact hS4 | exact hS3 | exact hS2 | exact hS1)
  refine wpAnyH_take (i := 0) (v := ?_) rfl (by kernel_rfl) (by kernel_rfl) (by kernel_rfl) (fun _ _ _ h => h) (Or.inl ⟨by rfl, ?_⟩) (by assumption) ?_
  rotate_left 1
  (intro w hSw; (try dsimp only at hSw); go_simp; try with_reducible rfl)
  (try simp only [List.getElem_toArray, List.getElem_cons_zero, Act.put, List.setIfInBounds_toArray, List.set_cons_zero, List.set_cons_succ])
  refine wpAnyH_take (i := 1) (v := ?_) rfl (by kernel_rfl) (by kernel_rfl) (by kernel_rfl) (fun _ _ _ h => h) (Or.inl ⟨by rfl, ?_⟩) (by assumption) ?_
  rotate_left 1
  (intro w hSw; (try dsimp only at hSw); go_simp; try with_reducible rfl)
  (try simp only [List.getElem_toArray, List.getElem_cons_succ, List.getElem_cons_zero, Act.put, List.setIfInBounds_toArray, List.set_cons_zero, List.set_cons_succ])
  refine wpAnyH_ready (rs := [2]) (by kernel_rfl) (by simp) ?_
  refine AllReadyH.cons rfl (fun K hK => ?_) AllReadyH.nil
  go_simp
  go_wp2_with (first | (go_at_call 25; have _t := tok1; refine cS1.mono ?_; rintro e v2 ⟨rfl, hc2⟩; have hC2 := hbd.trans (hc2.mono hbd.size); have hS1 := hmv _ hC2; have cS2 := rsame_any yC yC v2 _ _ (HYC1.out.below hC2) (HYD.out.below hC2); rw [same_self] at cS2; clear tok1 cS1) | (go_at_call 25; refine cS2.mono ?_; rintro e v3 ⟨rfl, hc3⟩; have hC3 := hC2.trans (hc3.mono hC2.size); have hS2 := hmv _ hC3; have cT1 := gTest_any (HL12.out.under hC3) (HX12.out.below hC3) (HS12.out.under hC3); rw [HQT.out] at cT1) | (go_at_call 17; refine cT1.mono ?_; rintro e v4 ⟨rfl, hc4⟩; have hC4 := hC3.trans (hc4.mono hC3.size); have hS3 := hmv _ hC4; have cT2 := rTest_any (HX12.out.below hC4) (HS12.out.under hC4); rw [HQT.out] at cT2) | (go_at_call 26; refine cT2.mono ?_; rintro e v5 ⟨rfl, hc5⟩; have hC5 := hC4.trans (hc5.mono hC4.size); have hS4 := hmv _ hC5; have cH1 := gHolds_any (HL12.out.under hC5) (HX12.out.below hC5) (HS12.out.under hC5); rw [HQH.out] at cH1) | (go_at_call 18; refine cH1.mono ?_; rintro e v6 ⟨rfl, hc6⟩; have hC6 := hC5.trans (hc6.mono hC5.size); have hS5 := hmv _ hC6; have cH2 := rHolds_any (HX12.out.below hC6) (HS12.out.under hC6); rw [HQH.out] at cH2) | (go_at_call 27; refine cH2.mono ?_; rintro e v7 ⟨rfl, hc7⟩; have hC7 := hC6.trans (hc7.mono hC6.size); have hS6 := hmv _ hC7) | (go_at_call 16; refine (wakes11_any (HL12.out.under hC7)).mono ?_; rintro e v8 ⟨rfl, hc8⟩; have hC8 := hC7.trans (hc8.mono hC7.size); have hS7 := hmv _ hC8))
  refine hK.out _ _ ?_ (fun hHeld => ?_)
  · (try dsimp only); (first | exact hS0 | exact hS7 | exact hS6 | exact hS5 | exact hS4 | exact hS3 | exact hS2 | exact hS1)
  clear hK K
  (try simp only [List.getElem_toArray, List.getElem_cons_succ, List.getElem_cons_zero, Act.put, List.setIfInBounds_toArray, List.set_cons_zero, List.set_cons_succ])
  refine wpAnyH_take (i := 3) (v := ?_) rfl (by kernel_rfl) (by kernel_rfl) (by kernel_rfl) (fun _ _ _ h => h) (Or.inl ⟨by rfl, ?_⟩) (by assumption) ?_
  rotate_left 1
  (intro w hSw; (try dsimp only at hSw); go_simp; try with_reducible rfl)
  (try simp only [List.getElem_toArray, List.getElem_cons_succ, List.getElem_cons_zero, Act.put, List.setIfInBounds_toArray, List.set_cons_zero, List.set_cons_succ])
  refine wpAnyH_take (i := 4) (v := ?_) rfl (by kernel_rfl) (by kernel_rfl) (by kernel_rfl) (fun _ _ _ h => h) (Or.inl ⟨by rfl, ?_⟩) (by assumption) ?_
  rotate_left 1
  (intro w hSw; (try dsimp only at hSw); go_simp; try with_reducible rfl)
  (try simp only [List.getElem_toArray, List.getElem_cons_succ, List.getElem_cons_zero, Act.put, List.setIfInBounds_toArray, List.set_cons_zero, List.set_cons_succ])
  refine wpAnyH_take (i := 5) (v := ?_) rfl (by kernel_rfl) (by kernel_rfl) (by kernel_rfl) (fun _ _ _ h => h) (Or.inl ⟨by rfl, ?_⟩) (by assumption) ?_
  rotate_left 1
  (intro w hSw; (try dsimp only at hSw); go_simp; try with_reducible rfl)
  (try simp only [List.getElem_toArray, List.getElem_cons_succ, List.getElem_cons_zero, Act.put, List.setIfInBounds_toArray, List.set_cons_zero, List.set_cons_succ])
  refine wpAnyH_take (i := 6) (v := ?_) rfl (by kernel_rfl) (by kernel_rfl) (by kernel_rfl) (fun _ _ _ h => h) (Or.inl ⟨by rfl, ?_⟩) (by assumption) ?_
  rotate_left 1
  (intro w hSw; (try dsimp only at hSw); go_simp; try with_reducible rfl)
  (try simp only [List.getElem_toArray, List.getElem_cons_succ, List.getElem_cons_zero, Act.put, List.setIfInBounds_toArray, List.set_cons_zero, List.set_cons_succ])
  refine wpAnyH_take (i := 7) (v := ?_) rfl (by kernel_rfl) (by kernel_rfl) (by kernel_rfl) (fun _ _ _ h => h) (Or.inl ⟨by rfl, ?_⟩) (by assumption) ?_
  rotate_left 1
  (intro w hSw; (try dsimp only at hSw); go_simp; try with_reducible rfl)
  (try simp only [List.getElem_toArray, List.getElem_cons_succ, List.getElem_cons_zero, Act.put, List.setIfInBounds_toArray, List.set_cons_zero, List.set_cons_succ])
  refine wpAnyH_take (i := 8) (v := ?_) rfl (by kernel_rfl) (by kernel_rfl) (by kernel_rfl) (fun _ _ _ h => h) (Or.inl ⟨by rfl, ?_⟩) (by assumption) ?_
  rotate_left 1
  (intro w hSw; (try dsimp only at hSw); go_simp; try with_reducible rfl)
  (try simp only [List.getElem_toArray, List.getElem_cons_succ, List.getElem_cons_zero, Act.put, List.setIfInBounds_toArray, List.set_cons_zero, List.set_cons_succ])
  refine wpAnyH_take (i := 9) (v := ?_) rfl (by kernel_rfl) (by kernel_rfl) (by kernel_rfl) (fun _ _ _ h => h) (Or.inl ⟨by rfl, ?_⟩) (by assumption) ?_
  rotate_left 1
  (intro w hSw; (try dsimp only at hSw); go_simp; try with_reducible rfl)
  (try simp only [List.getElem_toArray, List.getElem_cons_succ, List.getElem_cons_zero, Act.put, List.setIfInBounds_toArray, List.set_cons_zero, List.set_cons_succ])
  refine wpAnyH_take (i := 10) (v := ?_) rfl (by kernel_rfl) (by kernel_rfl) (by kernel_rfl) (fun _ _ _ h => h) (Or.inl ⟨by rfl, ?_⟩) (by assumption) ?_
  rotate_left 1
  (intro w hSw; (try dsimp only at hSw); go_simp; try with_reducible rfl)
  (try simp only [List.getElem_toArray, List.getElem_cons_succ, List.getElem_cons_zero, Act.put, List.setIfInBounds_toArray, List.set_cons_zero, List.set_cons_succ])
  refine wpAnyH_ready (rs := [11]) (by kernel_rfl) (by simp) ?_
  refine AllReadyH.cons rfl (fun K hK => ?_) AllReadyH.nil
  go_simp
  go_wp2_with (first | (go_at_call 25; have _t := tok1; refine cS1.mono ?_; rintro e v2 ⟨rfl, hc2⟩; have hC2 := hbd.trans (hc2.mono hbd.size); have hS1 := hmv _ hC2; have cS2 := rsame_any yC yC v2 _ _ (HYC1.out.below hC2) (HYD.out.below hC2); rw [same_self] at cS2; clear tok1 cS1) | (go_at_call 25; refine cS2.mono ?_; rintro e v3 ⟨rfl, hc3⟩; have hC3 := hC2.trans (hc3.mono hC2.size); have hS2 := hmv _ hC3; have cT1 := gTest_any (HL12.out.under hC3) (HX12.out.below hC3) (HS12.out.under hC3); rw [HQT.out] at cT1) | (go_at_call 17; refine cT1.mono ?_; rintro e v4 ⟨rfl, hc4⟩; have hC4 := hC3.trans (hc4.mono hC3.size); have hS3 := hmv _ hC4; have cT2 := rTest_any (HX12.out.below hC4) (HS12.out.under hC4); rw [HQT.out] at cT2) | (go_at_call 26; refine cT2.mono ?_; rintro e v5 ⟨rfl, hc5⟩; have hC5 := hC4.trans (hc5.mono hC4.size); have hS4 := hmv _ hC5; have cH1 := gHolds_any (HL12.out.under hC5) (HX12.out.below hC5) (HS12.out.under hC5); rw [HQH.out] at cH1) | (go_at_call 18; refine cH1.mono ?_; rintro e v6 ⟨rfl, hc6⟩; have hC6 := hC5.trans (hc6.mono hC5.size); have hS5 := hmv _ hC6; have cH2 := rHolds_any (HX12.out.below hC6) (HS12.out.under hC6); rw [HQH.out] at cH2) | (go_at_call 27; refine cH2.mono ?_; rintro e v7 ⟨rfl, hc7⟩; have hC7 := hC6.trans (hc7.mono hC6.size); have hS6 := hmv _ hC7) | (go_at_call 16; refine (wakes11_any (HL12.out.under hC7)).mono ?_; rintro e v8 ⟨rfl, hc8⟩; have hC8 := hC7.trans (hc8.mono hC7.size); have hS7 := hmv _ hC8))
  refine hK.out _ _ ?_ (fun hHeld => ?_)
  · (try dsimp only); (first | exact hS0 | exact hS7 | exact hS6 | exact hS5 | exact hS4 | exact hS3 | exact hS2 | exact hS1)
  clear hK K
  (try simp only [List.getElem_toArray, List.getElem_cons_succ, List.getElem_cons_zero, Act.put, List.setIfInBounds_toArray, List.set_cons_zero, List.set_cons_succ])
  refine wpAnyH_take (i := 12) (v := ?_) rfl (by kernel_rfl) (by kernel_rfl) (by kernel_rfl) (fun _ _ _ h => h) (Or.inl ⟨by rfl, ?_⟩) (by assumption) ?_
  rotate_left 1
  (intro w hSw; (try dsimp only at hSw); go_simp; try with_reducible rfl)
  (try simp only [List.getElem_toArray, List.getElem_cons_succ, List.getElem_cons_zero, Act.put, List.setIfInBounds_toArray, List.set_cons_zero, List.set_cons_succ])
  refine wpAnyH_take (i := 13) (v := ?_) rfl (by kernel_rfl) (by kernel_rfl) (by kernel_rfl) (fun _ _ _ h => h) (Or.inl ⟨by rfl, ?_⟩) (by assumption) ?_
  rotate_left 1
  (intro w hSw; (try dsimp only at hSw); go_simp; try with_reducible rfl)
  (try simp only [List.getElem_toArray, List.getElem_cons_succ, List.getElem_cons_zero, Act.put, List.setIfInBounds_toArray, List.set_cons_zero, List.set_cons_succ])
  refine wpAnyH_take (i := 14) (v := ?_) rfl (by kernel_rfl) (by kernel_rfl) (by kernel_rfl) (fun _ _ _ h => h) (Or.inl ⟨by rfl, ?_⟩) (by assumption) ?_
  rotate_left 1
  (intro w hSw; (try dsimp only at hSw); go_simp; try with_reducible rfl)
  (try simp only [List.getElem_toArray, List.getElem_cons_succ, List.getElem_cons_zero, Act.put, List.setIfInBounds_toArray, List.set_cons_zero, List.set_cons_succ])
  refine wpAnyH_take (i := 15) (v := ?_) rfl (by kernel_rfl) (by kernel_rfl) (by kernel_rfl) (fun _ _ _ h => h) (Or.inl ⟨by rfl, ?_⟩) (by assumption) ?_
  rotate_left 1
  (intro w hSw; (try dsimp only at hSw); go_simp; try with_reducible rfl)
  (try simp only [List.getElem_toArray, List.getElem_cons_succ, List.getElem_cons_zero, Act.put, List.setIfInBounds_toArray, List.set_cons_zero, List.set_cons_succ])
  refine wpAnyH_take (i := 16) (v := ?_) rfl (by kernel_rfl) (by kernel_rfl) (by kernel_rfl) (fun _ _ _ h => h) (Or.inl ⟨by rfl, ?_⟩) (by assumption) ?_
  rotate_left 1
  (intro w hSw; (try dsimp only at hSw); go_simp; try with_reducible rfl)
  (try simp only [List.getElem_toArray, List.getElem_cons_succ, List.getElem_cons_zero, Act.put, List.setIfInBounds_toArray, List.set_cons_zero, List.set_cons_succ])
  refine wpAnyH_take (i := 17) (v := ?_) rfl (by kernel_rfl) (by kernel_rfl) (by kernel_rfl) (fun _ _ _ h => h) (Or.inl ⟨by rfl, ?_⟩) (by assumption) ?_
  rotate_left 1
  (intro w hSw; (try dsimp only at hSw); go_simp; try with_reducible rfl)
  (try simp only [List.getElem_toArray, List.getElem_cons_succ, List.getElem_cons_zero, Act.put, List.setIfInBounds_toArray, List.set_cons_zero, List.set_cons_succ])
  refine wpAnyH_take (i := 18) (v := ?_) rfl (by kernel_rfl) (by kernel_rfl) (by kernel_rfl) (fun _ _ _ h => h) (Or.inl ⟨by rfl, ?_⟩) (by assumption) ?_
  rotate_left 1
  (intro w hSw; (try dsimp only at hSw); go_simp; try with_reducible rfl)
  (try simp only [List.getElem_toArray, List.getElem_cons_succ, List.getElem_cons_zero, Act.put, List.setIfInBounds_toArray, List.set_cons_zero, List.set_cons_succ])
  refine wpAnyH_take (i := 19) (v := ?_) rfl (by kernel_rfl) (by kernel_rfl) (by kernel_rfl) (fun _ _ _ h => h) (Or.inl ⟨by rfl, ?_⟩) (by assumption) ?_
  rotate_left 1
  (intro w hSw; (try dsimp only at hSw); go_simp; try with_reducible rfl)
  (try simp only [List.getElem_toArray, List.getElem_cons_succ, List.getElem_cons_zero, Act.put, List.setIfInBounds_toArray, List.set_cons_zero, List.set_cons_succ])
  refine wpAnyH_take (i := 20) (v := ?_) rfl (by kernel_rfl) (by kernel_rfl) (by kernel_rfl) (fun _ _ _ h => h) (Or.inl ⟨by rfl, ?_⟩) (by assumption) ?_
  rotate_left 1
  (intro w hSw; (try dsimp only at hSw); go_simp; try with_reducible rfl)
  (try simp only [List.getElem_toArray, List.getElem_cons_succ, List.getElem_cons_zero, Act.put, List.setIfInBounds_toArray, List.set_cons_zero, List.set_cons_succ])
  refine wpAnyH_take (i := 22) (v := ?_) rfl (by kernel_rfl) (by kernel_rfl) (by kernel_rfl) (fun _ _ _ h => h) (Or.inl ⟨by rfl, ?_⟩) (by assumption) ?_
  rotate_left 1
  (intro w hSw; (try dsimp only at hSw); go_simp; try with_reducible rfl)
  (try simp only [List.getElem_toArray, List.getElem_cons_succ, List.getElem_cons_zero, Act.put, List.setIfInBounds_toArray, List.set_cons_zero, List.set_cons_succ])
  refine wpAnyH_take (i := 23) (v := ?_) rfl (by kernel_rfl) (by kernel_rfl) (by kernel_rfl) (fun _ _ _ h => h) (Or.inl ⟨by rfl, ?_⟩) (by assumption) ?_
  rotate_left 1
  (intro w hSw; (try dsimp only at hSw); go_simp; try with_reducible rfl)
  (try simp only [List.getElem_toArray, List.getElem_cons_succ, List.getElem_cons_zero, Act.put, List.setIfInBounds_toArray, List.set_cons_zero, List.set_cons_succ])
  refine wpAnyH_ready (rs := [21]) (by kernel_rfl) (by simp) ?_
  refine AllReadyH.cons rfl (fun K hK => ?_) AllReadyH.nil
  go_simp
  go_wp2_with (first | (go_at_call 25; have _t := tok1; refine cS1.mono ?_; rintro e v2 ⟨rfl, hc2⟩; have hC2 := hbd.trans (hc2.mono hbd.size); have hS1 := hmv _ hC2; have cS2 := rsame_any yC yC v2 _ _ (HYC1.out.below hC2) (HYD.out.below hC2); rw [same_self] at cS2; clear tok1 cS1) | (go_at_call 25; refine cS2.mono ?_; rintro e v3 ⟨rfl, hc3⟩; have hC3 := hC2.trans (hc3.mono hC2.size); have hS2 := hmv _ hC3; have cT1 := gTest_any (HL12.out.under hC3) (HX12.out.below hC3) (HS12.out.under hC3); rw [HQT.out] at cT1) | (go_at_call 17; refine cT1.mono ?_; rintro e v4 ⟨rfl, hc4⟩; have hC4 := hC3.trans (hc4.mono hC3.size); have hS3 := hmv _ hC4; have cT2 := rTest_any (HX12.out.below hC4) (HS12.out.under hC4); rw [HQT.out] at cT2) | (go_at_call 26; refine cT2.mono ?_; rintro e v5 ⟨rfl, hc5⟩; have hC5 := hC4.trans (hc5.mono hC4.size); have hS4 := hmv _ hC5; have cH1 := gHolds_any (HL12.out.under hC5) (HX12.out.below hC5) (HS12.out.under hC5); rw [HQH.out] at cH1) | (go_at_call 18; refine cH1.mono ?_; rintro e v6 ⟨rfl, hc6⟩; have hC6 := hC5.trans (hc6.mono hC5.size); have hS5 := hmv _ hC6; have cH2 := rHolds_any (HX12.out.below hC6) (HS12.out.under hC6); rw [HQH.out] at cH2) | (go_at_call 27; refine cH2.mono ?_; rintro e v7 ⟨rfl, hc7⟩; have hC7 := hC6.trans (hc7.mono hC6.size); have hS6 := hmv _ hC7) | (go_at_call 16; refine (wakes11_any (HL12.out.under hC7)).mono ?_; rintro e v8 ⟨rfl, hc8⟩; have hC8 := hC7.trans (hc8.mono hC7.size); have hS7 := hmv _ hC8))
  refine hK.out _ _ ?_ (fun hHeld => ?_)
  · (try dsimp only); (first | exact hS0 | exact hS7 | exact hS6 | exact hS5 | exact hS4 | exact hS3 | exact hS2 | exact hS1)
  clear hK K
  (try simp only [List.getElem_toArray, List.getElem_cons_succ, List.getElem_cons_zero, Act.put, List.setIfInBounds_toArray, List.set_cons_zero, List.set_cons_succ])
  refine wpAnyH_ready (rs := [24]) (by kernel_rfl) (by simp) ?_
  refine AllReadyH.cons rfl (fun K hK => ?_) AllReadyH.nil
  go_simp
  go_wp2_with (first | (go_at_call 25; have _t := tok1; refine cS1.mono ?_; rintro e v2 ⟨rfl, hc2⟩; have hC2 := hbd.trans (hc2.mono hbd.size); have hS1 := hmv _ hC2; have cS2 := rsame_any yC yC v2 _ _ (HYC1.out.below hC2) (HYD.out.below hC2); rw [same_self] at cS2; clear tok1 cS1) | (go_at_call 25; refine cS2.mono ?_; rintro e v3 ⟨rfl, hc3⟩; have hC3 := hC2.trans (hc3.mono hC2.size); have hS2 := hmv _ hC3; have cT1 := gTest_any (HL12.out.under hC3) (HX12.out.below hC3) (HS12.out.under hC3); rw [HQT.out] at cT1) | (go_at_call 17; refine cT1.mono ?_; rintro e v4 ⟨rfl, hc4⟩; have hC4 := hC3.trans (hc4.mono hC3.size); have hS3 := hmv _ hC4; have cT2 := rTest_any (HX12.out.below hC4) (HS12.out.under hC4); rw [HQT.out] at cT2) | (go_at_call 26; refine cT2.mono ?_; rintro e v5 ⟨rfl, hc5⟩; have hC5 := hC4.trans (hc5.mono hC4.size); have hS4 := hmv _ hC5; have cH1 := gHolds_any (HL12.out.under hC5) (HX12.out.below hC5) (HS12.out.under hC5); rw [HQH.out] at cH1) | (go_at_call 18; refine cH1.mono ?_; rintro e v6 ⟨rfl, hc6⟩; have hC6 := hC5.trans (hc6.mono hC5.size); have hS5 := hmv _ hC6; have cH2 := rHolds_any (HX12.out.below hC6) (HS12.out.under hC6); rw [HQH.out] at cH2) | (go_at_call 27; refine cH2.mono ?_; rintro e v7 ⟨rfl, hc7⟩; have hC7 := hC6.trans (hc7.mono hC6.size); have hS6 := hmv _ hC7) | (go_at_call 16; refine (wakes11_any (HL12.out.under hC7)).mono ?_; rintro e v8 ⟨rfl, hc8⟩; have hC8 := hC7.trans (hc8.mono hC7.size); have hS7 := hmv _ hC8))
  refine hK.out _ _ ?_ (fun hHeld => ?_)
  · (try dsimp only); (first | exact hS0 | exact hS7 | exact hS6 | exact hS5 | exact hS4 | exact hS3 | exact hS2 | exact hS1)
  clear hK K
  (try simp only [List.getElem_toArray, List.getElem_cons_succ, List.getElem_cons_zero, Act.put, List.setIfInBounds_toArray, List.set_cons_zero, List.set_cons_succ])
  refine wpAnyH_take (i := 25) (v := ?_) rfl (by kernel_rfl) (by kernel_rfl) (by kernel_rfl) (fun _ _ _ h => h) (Or.inl ⟨by rfl, ?_⟩) (by assumption) ?_
  rotate_left 1
  (intro w hSw; (try dsimp only at hSw); go_simp; try with_reducible rfl)
  (try simp only [List.getElem_toArray, List.getElem_cons_succ, List.getElem_cons_zero, Act.put, List.setIfInBounds_toArray, List.set_cons_zero, List.set_cons_succ])
  refine wpAnyH_take (i := 26) (v := ?_) rfl (by kernel_rfl) (by kernel_rfl) (by kernel_rfl) (fun _ _ _ h => h) (Or.inl ⟨by rfl, ?_⟩) (by assumption) ?_
  rotate_left 1
  (intro w hSw; (try dsimp only at hSw); go_simp; try with_reducible rfl)
  (try simp only [List.getElem_toArray, List.getElem_cons_succ, List.getElem_cons_zero, Act.put, List.setIfInBounds_toArray, List.set_cons_zero, List.set_cons_succ])
  refine wpAnyH_take (i := 27) (v := ?_) rfl (by kernel_rfl) (by kernel_rfl) (by kernel_rfl) (fun _ _ _ h => h) (Or.inl ⟨by rfl, ?_⟩) (by assumption) ?_
  rotate_left 1
  (intro w hSw; (try dsimp only at hSw); go_simp; try with_reducible rfl)
  (try simp only [List.getElem_toArray, List.getElem_cons_succ, List.getElem_cons_zero, Act.put, List.setIfInBounds_toArray, List.set_cons_zero, List.set_cons_succ])
  refine wpAnyH_take (i := 28) (v := ?_) rfl (by kernel_rfl) (by kernel_rfl) (by kernel_rfl) (fun _ _ _ h => h) (Or.inl ⟨by rfl, ?_⟩) (by assumption) ?_
  rotate_left 1
  (intro w hSw; (try dsimp only at hSw); go_simp; try with_reducible rfl)
  (try simp only [List.getElem_toArray, List.getElem_cons_succ, List.getElem_cons_zero, Act.put, List.setIfInBounds_toArray, List.set_cons_zero, List.set_cons_succ])
  refine wpAnyH_take (i := 29) (v := ?_) rfl (by kernel_rfl) (by kernel_rfl) (by kernel_rfl) (fun _ _ _ h => h) (Or.inl ⟨by rfl, ?_⟩) (by assumption) ?_
  rotate_left 1
  (intro w hSw; (try dsimp only at hSw); go_simp; try with_reducible rfl)
  (try simp only [List.getElem_toArray, List.getElem_cons_succ, List.getElem_cons_zero, Act.put, List.setIfInBounds_toArray, List.set_cons_zero, List.set_cons_succ])
  refine wpAnyH_take (i := 31) (v := ?_) rfl (by kernel_rfl) (by kernel_rfl) (by kernel_rfl) (fun _ _ _ h => h) (Or.inl ⟨by rfl, ?_⟩) (by assumption) ?_
  rotate_left 1
  (intro w hSw; (try dsimp only at hSw); go_simp; try with_reducible rfl)
  (try simp only [List.getElem_toArray, List.getElem_cons_succ, List.getElem_cons_zero, Act.put, List.setIfInBounds_toArray, List.set_cons_zero, List.set_cons_succ])
  refine wpAnyH_take (i := 32) (v := ?_) rfl (by kernel_rfl) (by kernel_rfl) (by kernel_rfl) (fun _ _ _ h => h) (Or.inl ⟨by rfl, ?_⟩) (by assumption) ?_
  rotate_left 1
  (intro w hSw; (try dsimp only at hSw); go_simp; try with_reducible rfl)
  (try simp only [List.getElem_toArray, List.getElem_cons_succ, List.getElem_cons_zero, Act.put, List.setIfInBounds_toArray, List.set_cons_zero, List.set_cons_succ])
  refine wpAnyH_ready (rs := [30]) (by kernel_rfl) (by simp) ?_
  refine AllReadyH.cons rfl (fun K hK => ?_) AllReadyH.nil
  go_simp
  go_wp2_with (first | (go_at_call 25; have _t := tok1; refine cS1.mono ?_; rintro e v2 ⟨rfl, hc2⟩; have hC2 := hbd.trans (hc2.mono hbd.size); have hS1 := hmv _ hC2; have cS2 := rsame_any yC yC v2 _ _ (HYC1.out.below hC2) (HYD.out.below hC2); rw [same_self] at cS2; clear tok1 cS1) | (go_at_call 25; refine cS2.mono ?_; rintro e v3 ⟨rfl, hc3⟩; have hC3 := hC2.trans (hc3.mono hC2.size); have hS2 := hmv _ hC3; have cT1 := gTest_any (HL12.out.under hC3) (HX12.out.below hC3) (HS12.out.under hC3); rw [HQT.out] at cT1) | (go_at_call 17; refine cT1.mono ?_; rintro e v4 ⟨rfl, hc4⟩; have hC4 := hC3.trans (hc4.mono hC3.size); have hS3 := hmv _ hC4; have cT2 := rTest_any (HX12.out.below hC4) (HS12.out.under hC4); rw [HQT.out] at cT2) | (go_at_call 26; refine cT2.mono ?_; rintro e v5 ⟨rfl, hc5⟩; have hC5 := hC4.trans (hc5.mono hC4.size); have hS4 := hmv _ hC5; have cH1 := gHolds_any (HL12.out.under hC5) (HX12.out.below hC5) (HS12.out.under hC5); rw [HQH.out] at cH1) | (go_at_call 18; refine cH1.mono ?_; rintro e v6 ⟨rfl, hc6⟩; have hC6 := hC5.trans (hc6.mono hC5.size); have hS5 := hmv _ hC6; have cH2 := rHolds_any (HX12.out.below hC6) (HS12.out.under hC6); rw [HQH.out] at cH2) | (go_at_call 27; refine cH2.mono ?_; rintro e v7 ⟨rfl, hc7⟩; have hC7 := hC6.trans (hc7.mono hC6.size); have hS6 := hmv _ hC7) | (go_at_call 16; refine (wakes11_any (HL12.out.under hC7)).mono ?_; rintro e v8 ⟨rfl, hc8⟩; have hC8 := hC7.trans (hc8.mono hC7.size); have hS7 := hmv _ hC8))
  refine hK.out _ _ ?_ (fun hHeld => ?_)
  · (try dsimp only); (first | exact hS0 | exact hS7 | exact hS6 | exact hS5 | exact hS4 | exact hS3 | exact hS2 | exact hS1)
  clear hK K
  (try simp only [List.getElem_toArray, List.getElem_cons_succ, List.getElem_cons_zero, Act.put, List.setIfInBounds_toArray, List.set_cons_zero, List.set_cons_succ])
  refine wpAnyH_ready (rs := [33]) (by kernel_rfl) (by simp) ?_
  refine AllReadyH.cons rfl (fun K hK => ?_) AllReadyH.nil
  go_simp
  go_wp2_with (first | (go_at_call 25; have _t := tok1; refine cS1.mono ?_; rintro e v2 ⟨rfl, hc2⟩; have hC2 := hbd.trans (hc2.mono hbd.size); have hS1 := hmv _ hC2; have cS2 := rsame_any yC yC v2 _ _ (HYC1.out.below hC2) (HYD.out.below hC2); rw [same_self] at cS2; clear tok1 cS1) | (go_at_call 25; refine cS2.mono ?_; rintro e v3 ⟨rfl, hc3⟩; have hC3 := hC2.trans (hc3.mono hC2.size); have hS2 := hmv _ hC3; have cT1 := gTest_any (HL12.out.under hC3) (HX12.out.below hC3) (HS12.out.under hC3); rw [HQT.out] at cT1) | (go_at_call 17; refine cT1.mono ?_; rintro e v4 ⟨rfl, hc4⟩; have hC4 := hC3.trans (hc4.mono hC3.size); have hS3 := hmv _ hC4; have cT2 := rTest_any (HX12.out.below hC4) (HS12.out.under hC4); rw [HQT.out] at cT2) | (go_at_call 26; refine cT2.mono ?_; rintro e v5 ⟨rfl, hc5⟩; have hC5 := hC4.trans (hc5.mono hC4.size); have hS4 := hmv _ hC5; have cH1 := gHolds_any (HL12.out.under hC5) (HX12.out.below hC5) (HS12.out.under hC5); rw [HQH.out] at cH1) | (go_at_call 18; refine cH1.mono ?_; rintro e v6 ⟨rfl, hc6⟩; have hC6 := hC5.trans (hc6.mono hC5.size); have hS5 := hmv _ hC6; have cH2 := rHolds_any (HX12.out.below hC6) (HS12.out.under hC6); rw [HQH.out] at cH2) | (go_at_call 27; refine cH2.mono ?_; rintro e v7 ⟨rfl, hc7⟩; have hC7 := hC6.trans (hc7.mono hC6.size); have hS6 := hmv _ hC7) | (go_at_call 16; refine (wakes11_any (HL12.out.under hC7)).mono ?_; rintro e v8 ⟨rfl, hc8⟩; have hC8 := hC7.trans (hc8.mono hC7.size); have hS7 := hmv _ hC8))
  refine hK.out _ _ ?_ (fun hHeld => ?_)
  · (try dsimp only); (first | exact hS0 | exact hS7 | exact hS6 | exact hS5 | exact hS4 | exact hS3 | exact hS2 | exact hS1)
  clear hK K
  (try simp only [List.getElem_toArray, List.getElem_cons_succ, List.getElem_cons_zero, Act.put, List.setIfInBounds_toArray, List.set_cons_zero, List.set_cons_succ])
  refine wpAnyH_take (i := 34) (v := ?_) rfl (by kernel_rfl) (by kernel_rfl) (by kernel_rfl) (fun _ _ _ h => h) (Or.inl ⟨by rfl, ?_⟩) (by assumption) ?_
  rotate_left 1
  (intro w hSw; (try dsimp only at hSw); go_simp; try with_reducible rfl)
  (try simp only [List.getElem_toArray, List.getElem_cons_succ, List.getElem_cons_zero, Act.put, List.setIfInBounds_toArray, List.set_cons_zero, List.set_cons_succ])
  refine wpAnyH_take (i := 35) (v := ?_) rfl (by kernel_rfl) (by kernel_rfl) (by kernel_rfl) (fun _ _ _ h => h) (Or.inl ⟨by rfl, ?_⟩) (by assumption) ?_
  rotate_left 1
  (intro w hSw; (try dsimp only at hSw); go_simp; try with_reducible rfl)
  (try simp only [List.getElem_toArray, List.getElem_cons_succ, List.getElem_cons_zero, Act.put, List.setIfInBounds_toArray, List.set_cons_zero, List.set_cons_succ])
  refine wpAnyH_take (i := 36) (v := ?_) rfl (by kernel_rfl) (by kernel_rfl) (by kernel_rfl) (fun _ _ _ h => h) (Or.inl ⟨by rfl, ?_⟩) (by assumption) ?_
  rotate_left 1
  (intro w hSw; (try dsimp only at hSw); go_simp; try with_reducible rfl)
  (try simp only [List.getElem_toArray, List.getElem_cons_succ, List.getElem_cons_zero, Act.put, List.setIfInBounds_toArray, List.set_cons_zero, List.set_cons_succ])
  refine wpAnyH_ready (rs := [37]) (by kernel_rfl) (by simp) ?_
  refine AllReadyH.cons rfl (fun K hK => ?_) AllReadyH.nil
  go_simp
  go_wp2_with (first | (go_at_call 25; have _t := tok1; refine cS1.mono ?_; rintro e v2 ⟨rfl, hc2⟩; have hC2 := hbd.trans (hc2.mono hbd.size); have hS1 := hmv _ hC2; have cS2 := rsame_any yC yC v2 _ _ (HYC1.out.below hC2) (HYD.out.below hC2); rw [same_self] at cS2; clear tok1 cS1) | (go_at_call 25; refine cS2.mono ?_; rintro e v3 ⟨rfl, hc3⟩; have hC3 := hC2.trans (hc3.mono hC2.size); have hS2 := hmv _ hC3; have cT1 := gTest_any (HL12.out.under hC3) (HX12.out.below hC3) (HS12.out.under hC3); rw [HQT.out] at cT1) | (go_at_call 17; refine cT1.mono ?_; rintro e v4 ⟨rfl, hc4⟩; have hC4 := hC3.trans (hc4.mono hC3.size); have hS3 := hmv _ hC4; have cT2 := rTest_any (HX12.out.below hC4) (HS12.out.under hC4); rw [HQT.out] at cT2) | (go_at_call 26; refine cT2.mono ?_; rintro e v5 ⟨rfl, hc5⟩; have hC5 := hC4.trans (hc5.mono hC4.size); have hS4 := hmv _ hC5; have cH1 := gHolds_any (HL12.out.under hC5) (HX12.out.below hC5) (HS12.out.under hC5); rw [HQH.out] at cH1) | (go_at_call 18; refine cH1.mono ?_; rintro e v6 ⟨rfl, hc6⟩; have hC6 := hC5.trans (hc6.mono hC5.size); have hS5 := hmv _ hC6; have cH2 := rHolds_any (HX12.out.below hC6) (HS12.out.under hC6); rw [HQH.out] at cH2) | (go_at_call 27; refine cH2.mono ?_; rintro e v7 ⟨rfl, hc7⟩; have hC7 := hC6.trans (hc7.mono hC6.size); have hS6 := hmv _ hC7) | (go_at_call 16; refine (wakes11_any (HL12.out.under hC7)).mono ?_; rintro e v8 ⟨rfl, hc8⟩; have hC8 := hC7.trans (hc8.mono hC7.size); have hS7 := hmv _ hC8))
  refine hK.out _ _ ?_ (fun hHeld => ?_)
  · (try dsimp only); (first | exact hS0 | exact hS7 | exact hS6 | exact hS5 | exact hS4 | exact hS3 | exact hS2 | exact hS1)
  clear hK K
  (try simp only [List.getElem_toArray, List.getElem_cons_succ, List.getElem_cons_zero, Act.put, List.setIfInBounds_toArray, List.set_cons_zero, List.set_cons_succ])
  refine wpAnyH_take (i := 38) (v := ?_) rfl (by kernel_rfl) (by kernel_rfl) (by kernel_rfl) (fun _ _ _ h => h) (Or.inl ⟨by rfl, ?_⟩) (by assumption) ?_
  rotate_left 1
  (intro w hSw; (try dsimp only at hSw); go_simp; try with_reducible rfl)
  (try simp only [List.getElem_toArray, List.getElem_cons_succ, List.getElem_cons_zero, Act.put, List.setIfInBounds_toArray, List.set_cons_zero, List.set_cons_succ])
  refine wpAnyH_take (i := 39) (v := ?_) rfl (by kernel_rfl) (by kernel_rfl) (by kernel_rfl) (fun _ _ _ h => h) (Or.inl ⟨by rfl, ?_⟩) (by assumption) ?_
  rotate_left 1
  (intro w hSw; (try dsimp only at hSw); go_simp; try with_reducible rfl)
  (try simp only [List.getElem_toArray, List.getElem_cons_succ, List.getElem_cons_zero, Act.put, List.setIfInBounds_toArray, List.set_cons_zero, List.set_cons_succ])
  refine wpAnyH_done (by kernel_rfl) ?_ _
  go_wp2_with fail
  go_ret
  exact ⟨rfl, hb1.trans ((hB12.trans (hC8.mono hB12.size)).mono hb1.size)⟩
end Go.Proofs.YtlhobpknflobgaaGreatDoor
