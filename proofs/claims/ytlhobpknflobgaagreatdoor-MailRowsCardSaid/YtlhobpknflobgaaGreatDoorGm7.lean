/-
  pleachlaw17.wakes. Conditions: the letters' table is laid.
-/
import Derived.Test.YtlhobpknflobgaaGreatDoorGm6
import Derived.BigRegion
namespace Go.Proofs.YtlhobpknflobgaaGreatDoor
open Go.RowKit

theorem carry {w w' : World} {b : Nat} {o : Obj} (h : w.heap[b]? = some o) (hb : Below w.heap.size w w') : w'.heap[b]? = some o := (hb.block b (Array.getElem?_eq_some_iff.1 h).1).trans h
/-- The three items, as cells. -/
def c18 (sv : Value) : Array Value := #[.int .i8 1, .int .i64 0, .string ⟨#[99]⟩, .string ⟨#[]⟩, .slice none 0 0, .bool false, .int .i8 1, .int .i64 0, .string ⟨#[98]⟩, .string ⟨#[]⟩, .slice none 0 0, .bool false, .int .i8 5, .int .i64 0, .string ⟨#[]⟩, .string ⟨#[]⟩, sv, .bool false]
/-- The two clauses, as cells. -/
def c10 (sv tv : Value) : Array Value := #[.int .i8 3, .int .i64 1, .string ⟨#[]⟩, .string ⟨#[]⟩, sv, .int .i8 3, .int .i64 1, .string ⟨#[]⟩, .string ⟨#[]⟩, tv]
theorem selW {W : World} {bI bM : Nat} {sv tv uv : Value} (hL : Letters W) (hI : W.heap[bI]? = some (.cells (c18 sv) 65 (0, 0))) (h3 : TrV (fun _ => True) W thirdT sv) (hM : W.heap[bM]? = some (.cells (c10 tv uv) 25 (0, 0))) (h8 : TrV (fun _ => True) W (clT pairN) tv) (h9 : TrV (fun _ => True) W (clT bN) uv) :
    Calls Tryz.prog 34 #[.slice (some ⟨bI, 0, none⟩) 3 3, .slice (some ⟨bM, 0, none⟩) 2 2, .slice none 0 0] W (SelPost (1, 1, [], true, 0) W) := by
  have ci : ∀ o u, (c18 sv)[o]? = some u → W.cell? ⟨bI, o, none⟩ = some u := fun o u hu => (arr_cell hI).trans hu
  have cn : ∀ o u, (c10 tv uv)[o]? = some u → W.cell? ⟨bM, o, none⟩ = some u := fun o u hu => (arr_cell hM).trans hu
  have ha : ∀ s : ByteArray, s.size ≤ 64 → TrV (fun _ => True) W (aT s) (.slice none 0 0) := fun s h => ⟨wf_small _ _ _ _ _ (by decide) (by decide) h (by decide), Kids.nil _ _⟩
  have hit : Items (fun _ => True) W (.slice (some ⟨bI, 0, none⟩) 3 3) [⟨aT sC, false⟩, ⟨aT sB, false⟩, ⟨thirdT, false⟩] := by
    refine ⟨_, 3, rfl, Nat.le_refl _, by simp [BL], fun i hi => ?_, fun e => by cases e⟩
    match i, hi with
    | 0, _ => exact ⟨bI, 0, _, rfl, trivial, ⟨ci 0 _ rfl, ci 1 _ rfl, ci 2 _ rfl, ci 3 _ rfl, ci 4 _ rfl⟩, ci 5 _ rfl, ha sC (by decide)⟩
    | 1, _ => exact ⟨bI, 0, _, rfl, trivial, ⟨ci 6 _ rfl, ci 7 _ rfl, ci 8 _ rfl, ci 9 _ rfl, ci 10 _ rfl⟩, ci 11 _ rfl, ha sB (by decide)⟩
    | 2, _ => exact ⟨bI, 0, _, rfl, trivial, ⟨ci 12 _ rfl, ci 13 _ rfl, ci 14 _ rfl, ci 15 _ rfl, ci 16 _ rfl⟩, ci 17 _ rfl, h3⟩
  have hk : Kids (fun _ => True) W (.slice (some ⟨bM, 0, none⟩) 2 2) [clT pairN, clT bN] := kids_two (F := fun _ => True) (x := clT pairN) (y := clT bN) ⟨cn 0 _ rfl, cn 1 _ rfl, cn 2 _ rfl, cn 3 _ rfl, cn 4 _ rfl⟩ ⟨cn 5 _ rfl, cn 6 _ rfl, cn 7 _ rfl, cn 8 _ rfl, cn 9 _ rfl⟩ h8 h9 trivial
  have := select_any (gB := gB0) (gH := gH0) (w := W) ⟨hL, hit, hk, Binds.nil _ _, fun c hc => ?_, fun c hc => ?_⟩
  · rwa [wake17] at this
  · simp only [List.mem_cons, List.not_mem_nil, or_false] at hc
    rcases hc with rfl | rfl <;> exact guard0 _
  · simp only [List.mem_cons, List.not_mem_nil, or_false] at hc
    rcases hc with rfl | rfl <;> exact holds0 hL _

set_option maxHeartbeats 8000000 in
set_option maxRecDepth 100000 in
theorem wakes17_any {w : World} (hL : Letters w) : Calls Tryz.prog 33 #[] w fun e w' => e = .returned (.bool true) ∧ Below w.heap.size w w' := by
  go_enter Tryz.func33, Tryz.ntmps33
  go_upto_region 2 with fail
  obtain ⟨n1, n2, hb2, hz2⟩ := two_new w (.cells #[.int .i8 7, .int .i64 0, .string ⟨#[97]⟩, .string ⟨#[]⟩, .slice none 0 0, .int .i8 5, .int .i64 0, .string ⟨#[88]⟩, .string ⟨#[]⟩, .slice none 0 0] 25) (.cells #[.int .i8 10, .int .i64 0, .string ⟨#[]⟩, .string ⟨#[]⟩, .slice (some ⟨w.heap.size, 0, none⟩) 2 2] 25)
  generalize (w.alloc (.cells #[.int .i8 7, .int .i64 0, .string ⟨#[97]⟩, .string ⟨#[]⟩, .slice none 0 0, .int .i8 5, .int .i64 0, .string ⟨#[88]⟩, .string ⟨#[]⟩, .slice none 0 0] 25)).alloc (.cells #[.int .i8 10, .int .i64 0, .string ⟨#[]⟩, .string ⟨#[]⟩, .slice (some ⟨w.heap.size, 0, none⟩) 2 2] 25) = w2 at n1 n2 hb2 hz2 ⊢
  have hc : ∀ o u, (#[.int .i8 7, .int .i64 0, .string ⟨#[97]⟩, .string ⟨#[]⟩, .slice none 0 0, .int .i8 5, .int .i64 0, .string ⟨#[88]⟩, .string ⟨#[]⟩, .slice none 0 0] : Array Value)[o]? = some u → w2.cell? ⟨w.heap.size, o, none⟩ = some u := fun o u h => (arr_cell n1).trans h
  have hsm : ∀ (k : Int) (s : ByteArray) (W : World), (Lit.int .i8 k).wf = true → s.size ≤ 64 → TrV (fun _ => True) W (.mk k 0 s ⟨#[]⟩ []) (.slice none 0 0) := fun k s W h h2 => ⟨wf_small _ _ _ _ _ h (by decide) h2 (by decide), Kids.nil _ _⟩
  have hp2 : TrV (fun _ => True) w2 pairN (.slice (some ⟨w.heap.size, 0, none⟩) 2 2) := ⟨wf_small _ _ _ _ _ (by decide) (by decide) (by decide) (by decide), kids_two (F := fun _ => True) (x := .mk 7 0 sA ⟨#[]⟩ []) (y := .mk 5 0 ⟨#[88]⟩ ⟨#[]⟩ []) ⟨hc 0 _ rfl, hc 1 _ rfl, hc 2 _ rfl, hc 3 _ rfl, hc 4 _ rfl⟩ ⟨hc 5 _ rfl, hc 6 _ rfl, hc 7 _ rfl, hc 8 _ rfl, hc 9 _ rfl⟩ (hsm 7 sA _ (by decide) (by decide)) (hsm 5 _ _ (by decide) (by decide)) trivial⟩
  go_upto_region 3 with (first
    | (go_at_call 70; refine (ratom_any w2 ⟨#[97]⟩).mono ?_; rintro e w3 ⟨rfl, hb3⟩)
    | (go_at_call 71; refine (int_any w3 1).mono ?_; rintro e w4 ⟨rfl, hb4⟩))
  obtain ⟨m1, m2, hb5, hz5⟩ := two_new w4 (.cells #[.int .i8 1, .int .i64 0, .string ⟨#[97]⟩, .string ⟨#[]⟩, .slice none 0 0, .int .i8 0, .int .i64 1, .string ⟨#[]⟩, .string ⟨#[]⟩, .slice none 0 0] 29) (.cells (cells6 ⟨thirdT, false⟩ (.slice (some ⟨w4.heap.size, 0, none⟩) 2 2)) 65)
  change Code.wp _ _ _ _ ((w4.alloc (.cells #[.int .i8 1, .int .i64 0, .string ⟨#[97]⟩, .string ⟨#[]⟩, .slice none 0 0, .int .i8 0, .int .i64 1, .string ⟨#[]⟩, .string ⟨#[]⟩, .slice none 0 0] 29)).alloc (.cells (cells6 ⟨thirdT, false⟩ (.slice (some ⟨w4.heap.size, 0, none⟩) 2 2)) 65))
  generalize (w4.alloc (.cells #[.int .i8 1, .int .i64 0, .string ⟨#[97]⟩, .string ⟨#[]⟩, .slice none 0 0, .int .i8 0, .int .i64 1, .string ⟨#[]⟩, .string ⟨#[]⟩, .slice none 0 0] 29)).alloc (.cells (cells6 ⟨thirdT, false⟩ (.slice (some ⟨w4.heap.size, 0, none⟩) 2 2)) 65) = w5 at m1 m2 hb5 hz5 ⊢
  have hb24 := hb3.trans (hb4.mono hb3.size)
  have hb25 := hb24.trans (hb5.mono hb24.size)
  have hB5 := hb2.trans (hb25.mono hb2.size)
  have hd : ∀ o u, (#[.int .i8 1, .int .i64 0, .string ⟨#[97]⟩, .string ⟨#[]⟩, .slice none 0 0, .int .i8 0, .int .i64 1, .string ⟨#[]⟩, .string ⟨#[]⟩, .slice none 0 0] : Array Value)[o]? = some u → w5.cell? ⟨w4.heap.size, o, none⟩ = some u := fun o u h => (arr_cell m1).trans h
  have ht5 : TrV (fun _ => True) w5 thirdT (.slice (some ⟨w4.heap.size, 0, none⟩) 2 2) := ⟨wf_small _ _ _ _ _ (by decide) (by decide) (by decide) (by decide), kids_two (F := fun _ => True) (x := aT sA) (y := .mk 0 1 ⟨#[]⟩ ⟨#[]⟩ []) ⟨hd 0 _ rfl, hd 1 _ rfl, hd 2 _ rfl, hd 3 _ rfl, hd 4 _ rfl⟩ ⟨hd 5 _ rfl, hd 6 _ rfl, hd 7 _ rfl, hd 8 _ rfl, hd 9 _ rfl⟩ (hsm 1 sA _ (by decide) (by decide)) ⟨wf_small _ _ _ _ _ (by decide) (by decide) (by decide) (by decide), Kids.nil _ _⟩ trivial⟩
  have hp5 := hp2.below hb25
  have n25 := (hb25.block _ (show w.heap.size + 1 < w2.heap.size by omega)).trans n2
  obtain ⟨_, ⟨t0, t1, t2, t3, t4, t5⟩, _⟩ := six_facts m2
  have hL5 := Lib.hid (hL.under hB5)
  have q : ∀ o, w5.cell? ⟨w.heap.size + 1, o, none⟩ = (#[.int .i8 10, .int .i64 0, .string ⟨#[]⟩, .string ⟨#[]⟩, .slice (some ⟨w.heap.size, 0, none⟩) 2 2] : Array Value)[o]? := fun o => arr_cell n25
  have q0 : w5.cell? ⟨w.heap.size + 1, 0, none⟩ = some (.int .i8 10) := q 0
  have q1 : w5.cell? ⟨w.heap.size + 1, 1, none⟩ = some (.int .i64 0) := q 1
  have q2 : w5.cell? ⟨w.heap.size + 1, 2, none⟩ = some (.string ⟨#[]⟩) := q 2
  have q3 : w5.cell? ⟨w.heap.size + 1, 3, none⟩ = some (.string ⟨#[]⟩) := q 3
  have q4 : w5.cell? ⟨w.heap.size + 1, 4, none⟩ = some (.slice (some ⟨w.heap.size, 0, none⟩) 2 2) := q 4
  clear n1 n2 hb2 hz2 hc hb3 hb4 m1 m2 hb5 hz5 hb24 hb25 hd hp2 n25 q hsm hL
  generalize w.heap.size + 1 = bp at *
  generalize w4.heap.size + 1 = bt at *
  generalize w4.heap.size = b3 at *
  have hS : ∀ W : World, Below w5.heap.size w5 W → W.cell? ⟨bp, 0, none⟩ = some (.int .i8 10) ∧ W.cell? ⟨bp, 1, none⟩ = some (.int .i64 0) ∧ W.cell? ⟨bp, 2, none⟩ = some (.string ⟨#[]⟩) ∧ W.cell? ⟨bp, 3, none⟩ = some (.string ⟨#[]⟩) ∧ W.cell? ⟨bp, 4, none⟩ = some (.slice (some ⟨w.heap.size, 0, none⟩) 2 2) ∧ W.cell? ⟨bt, 0, none⟩ = some (.int .i8 5) ∧ W.cell? ⟨bt, 1, none⟩ = some (.int .i64 0) ∧ W.cell? ⟨bt, 2, none⟩ = some (.string ⟨#[]⟩) ∧ W.cell? ⟨bt, 3, none⟩ = some (.string ⟨#[]⟩) ∧ W.cell? ⟨bt, 4, none⟩ = some (.slice (some ⟨b3, 0, none⟩) 2 2) ∧ W.cell? ⟨bt, 5, none⟩ = some (.bool false) := by
    intro W hb
    have f : ∀ g o u, w5.cell? ⟨g, o, none⟩ = some u → W.cell? ⟨g, o, none⟩ = some u := fun g o u h => (hb.cell (p := ⟨g, o, none⟩) (cell_block h)).trans h
    exact ⟨f _ _ _ q0, f _ _ _ q1, f _ _ _ q2, f _ _ _ q3, f _ _ _ q4, f _ _ _ t0, f _ _ _ t1, f _ _ _ t2, f _ _ _ t3, f _ _ _ t4, f _ _ _ t5⟩
  have hS0 := hS w5 (Below.refl _ _)
  have hd : Below w5.heap.size w5 w5.drew := below_drewN (Below.refl _ _) 1
  clear q0 q1 q2 q3 q4 t0 t1 t2 t3 t4 t5
  go_region_held3 (fun W => W.cell? ⟨bp, 0, none⟩ = some (.int .i8 10) ∧ W.cell? ⟨bp, 1, none⟩ = some (.int .i64 0) ∧ W.cell? ⟨bp, 2, none⟩ = some (.string ⟨#[]⟩) ∧ W.cell? ⟨bp, 3, none⟩ = some (.string ⟨#[]⟩) ∧ W.cell? ⟨bp, 4, none⟩ = some (.slice (some ⟨w.heap.size, 0, none⟩) 2 2) ∧ W.cell? ⟨bt, 0, none⟩ = some (.int .i8 5) ∧ W.cell? ⟨bt, 1, none⟩ = some (.int .i64 0) ∧ W.cell? ⟨bt, 2, none⟩ = some (.string ⟨#[]⟩) ∧ W.cell? ⟨bt, 3, none⟩ = some (.string ⟨#[]⟩) ∧ W.cell? ⟨bt, 4, none⟩ = some (.slice (some ⟨b3, 0, none⟩) 2 2) ∧ W.cell? ⟨bt, 5, none⟩ = some (.bool false)) (first | exact hS0 | exact hS1 | exact hS2 | exact hS3 | exact hS4 | exact hS _ (hB9.trans ((alloc_below _ _).mono hB9.size)) | exact hS _ ((hB9.trans ((alloc_below _ _).mono hB9.size)).trans ((alloc_below _ _).mono (hB9.trans ((alloc_below _ _).mono hB9.size)).size)) | exact hS _ (hB8.trans ((alloc_below _ _).mono hB8.size)) | exact hS _ (hB7.trans ((alloc_below _ _).mono hB7.size))) (first
    | (go_at_call 72; refine (item_any _ ⟨#[99]⟩).mono ?_; rintro e w6 ⟨rfl, hb6⟩
       have hB6 := hd.trans (hb6.mono hd.size)
       have hS1 := hS _ hB6)
    | (go_at_call 72; refine (item_any _ ⟨#[98]⟩).mono ?_; rintro e w7 ⟨rfl, hb7⟩
       have hB7 := hB6.trans (hb7.mono hB6.size)
       have hS2 := hS _ hB7)
    | (go_at_call 73; refine (takes_any (F := fun _ => True) (p := pairN) (hp5.below (by first | exact hB7 | exact hB7.trans ((alloc_below _ _).mono hB7.size)))).mono ?_; rintro e w8 ⟨sv8, rfl, ht8, hb8⟩
       have hB8 : Below w5.heap.size w5 w8 := by first | exact hB7.trans (hb8.mono hB7.size) | exact (hB7.trans ((alloc_below _ _).mono hB7.size)).trans (hb8.mono (hB7.trans ((alloc_below _ _).mono hB7.size)).size)
       have hS3 := hS _ hB8
       obtain ⟨p8, c8, rfl⟩ := ht8.kids.slice)
    | (go_at_call 73; refine (takes_any (F := fun _ => True) (p := bN) ⟨wf_small _ _ _ _ _ (by decide) (by decide) (by decide) (by decide), Kids.nil _ _⟩).mono ?_; rintro e w9 ⟨sv9, rfl, ht9, hb9⟩
       have hB9 : Below w5.heap.size w5 w9 := by first | exact hB8.trans (hb9.mono hB8.size) | exact (hB8.trans ((alloc_below _ _).mono hB8.size)).trans (hb9.mono (hB8.trans ((alloc_below _ _).mono hB8.size)).size)
       have hS4 := hS _ hB9
       obtain ⟨p9, c9, rfl⟩ := ht9.kids.slice)
    | (go_at_call 34
       refine Calls.mono (selW (hL5.out.under (hB9.trans ((alloc_below w9 _).mono hB9.size))) (carry (carry (carry (heap_new w7 _) hb8) hb9) (alloc_below w9 _)) (ht5.below (hB9.trans ((alloc_below w9 _).mono hB9.size))) (heap_new w9 _) ((ht8.below hb9).below (alloc_below w9 _)) (ht9.below (alloc_below w9 _))) ?_
       rintro e w11 ⟨v11, l11, i11, j11, ok11, er11, rfl, hl11, hb11, hq11⟩
       cases hq11
       obtain ⟨p11, c11, rfl⟩ := hl11.slice
       have hB11 : Below w5.heap.size w5 w11 := (hB9.trans ((alloc_below w9 _).mono hB9.size)).trans (hb11.mono (hB9.trans ((alloc_below w9 _).mono hB9.size)).size)
       have hS4 := hS _ hB11)
    | (go_at_call 34
       refine Calls.mono (selW (hL5.out.under (hB9.trans ((alloc_below w9 _).mono hB9.size))) (carry (carry (heap_new w8 _) hb9) (alloc_below w9 _)) (ht5.below (hB9.trans ((alloc_below w9 _).mono hB9.size))) (heap_new w9 _) (((ht8.below (alloc_below w8 _)).below hb9).below (alloc_below w9 _)) (ht9.below (alloc_below w9 _))) ?_
       rintro e w11 ⟨v11, l11, i11, j11, ok11, er11, rfl, hl11, hb11, hq11⟩
       cases hq11
       obtain ⟨p11, c11, rfl⟩ := hl11.slice
       have hB11 : Below w5.heap.size w5 w11 := (hB9.trans ((alloc_below w9 _).mono hB9.size)).trans (hb11.mono (hB9.trans ((alloc_below w9 _).mono hB9.size)).size)
       have hS4 := hS _ hB11)
    | (go_at_call 34
       refine Calls.mono (selW (hL5.out.under ((hB9.trans ((alloc_below _ _).mono hB9.size)).trans ((alloc_below _ _).mono (hB9.trans ((alloc_below _ _).mono hB9.size)).size))) ((two_new w9 _ _).1) (ht5.below ((hB9.trans ((alloc_below _ _).mono hB9.size)).trans ((alloc_below _ _).mono (hB9.trans ((alloc_below _ _).mono hB9.size)).size))) ((two_new w9 _ _).2.1) (((ht8.below hb9).below (alloc_below w9 _)).below (alloc_below _ _)) ((ht9.below (alloc_below w9 _)).below (alloc_below _ _))) ?_
       rintro e w11 ⟨v11, l11, i11, j11, ok11, er11, rfl, hl11, hb11, hq11⟩
       cases hq11
       obtain ⟨p11, c11, rfl⟩ := hl11.slice
       have hB11 : Below w5.heap.size w5 w11 := ((hB9.trans ((alloc_below w9 _).mono hB9.size)).trans ((alloc_below _ _).mono (hB9.trans ((alloc_below w9 _).mono hB9.size)).size)).trans (hb11.mono ((hB9.trans ((alloc_below w9 _).mono hB9.size)).trans ((alloc_below _ _).mono (hB9.trans ((alloc_below w9 _).mono hB9.size)).size)).size)
       have hS4 := hS _ hB11)
    | (go_at_call 34
       refine Calls.mono (selW (hL5.out.under ((hB9.trans ((alloc_below _ _).mono hB9.size)).trans ((alloc_below _ _).mono (hB9.trans ((alloc_below _ _).mono hB9.size)).size))) ((two_new w9 _ _).2.1) (ht5.below ((hB9.trans ((alloc_below _ _).mono hB9.size)).trans ((alloc_below _ _).mono (hB9.trans ((alloc_below _ _).mono hB9.size)).size))) ((two_new w9 _ _).1) (((ht8.below hb9).below (alloc_below w9 _)).below (alloc_below _ _)) ((ht9.below (alloc_below w9 _)).below (alloc_below _ _))) ?_
       rintro e w11 ⟨v11, l11, i11, j11, ok11, er11, rfl, hl11, hb11, hq11⟩
       cases hq11
       obtain ⟨p11, c11, rfl⟩ := hl11.slice
       have hB11 : Below w5.heap.size w5 w11 := ((hB9.trans ((alloc_below w9 _).mono hB9.size)).trans ((alloc_below _ _).mono (hB9.trans ((alloc_below w9 _).mono hB9.size)).size)).trans (hb11.mono ((hB9.trans ((alloc_below w9 _).mono hB9.size)).trans ((alloc_below _ _).mono (hB9.trans ((alloc_below w9 _).mono hB9.size)).size)).size)
       have hS4 := hS _ hB11))
  all_goals
    go_wp2
    go_ret
    exact ⟨rfl, hB5.trans (hB11.mono hB5.size)⟩
end Go.Proofs.YtlhobpknflobgaaGreatDoor
