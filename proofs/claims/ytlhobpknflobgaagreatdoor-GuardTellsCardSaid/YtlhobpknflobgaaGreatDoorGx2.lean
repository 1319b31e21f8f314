/-
  pleachlaw11.wakes. Conditions: the letters lie as 'Letters' says.
-/
import Derived.Test.YtlhobpknflobgaaGreatDoorGx1
namespace Go.Proofs.YtlhobpknflobgaaGreatDoor
open Go.RowKit

def n6 : Tr := .mk 6 0 ⟨#[]⟩ ⟨#[]⟩ []
def aT : Tr := .mk 7 0 ⟨#[97]⟩ ⟨#[]⟩ []
def isT : Tr := .mk 12 0 ⟨#[105, 115, 95, 105, 110, 116, 101, 103, 101, 114]⟩ ⟨#[]⟩ [xT]
def yesT : Tr := .mk 4 0 ⟨#[]⟩ ⟨#[]⟩ [moreT n6, isT]
theorem yes_holds : hldS yesT bX = true := by kernel_rfl
theorem no_holds : testS (moreT aT) bX = false := by kernel_rfl
theorem is_holds : testS isT bX = true := by kernel_rfl
def WkMid (w1 : World) (s2 : Value) (wx : World) : Prop := ∃ (b2 : Nat) (p : Option Addr) (c : Nat), s2 = .pointer (some ⟨b2, 0, none⟩) ∧ wx.heap[b2]? = some (.cells (cells5 yesT (.slice p 2 c)) 25 (0, 0)) ∧ TrV (fun _ => True) wx yesT (.slice p 2 c) ∧ Below w1.heap.size w1 wx

set_option maxHeartbeats 8000000 in
set_option maxRecDepth 100000 in
theorem wakes11_any {w : World} (hL : Letters w) : Calls Tryz.prog 16 #[] w fun e w' => e = .returned (.bool true) ∧ Below w.heap.size w w' := by
  obtain ⟨k1, k2, hb1, hz1⟩ := two_new w (.cells (cells5 xT (.slice none 0 0)) 25) (.cells (cells5 isT (.slice (some ⟨w.heap.size, 0, none⟩) 1 1)) 25)
  have hI : TrV (fun _ => True) ((w.alloc (.cells (cells5 xT (.slice none 0 0)) 25)).alloc (.cells (cells5 isT (.slice (some ⟨w.heap.size, 0, none⟩) 1 1)) 25)) isT (.slice (some ⟨w.heap.size, 0, none⟩) 1 1) := ⟨wf_small _ _ _ _ _ (by decide) (by decide) (by decide) (by decide), kids_one (node_heap k1) ⟨wf_small _ _ _ _ _ (by decide) (by decide) (by decide) (by decide), Kids.nil _ _⟩ trivial⟩
  have hL1 := hL.under hb1
  clear hz1 k1 hL
  go_enter Tryz.func16, Tryz.ntmps16
  go_upto_region 2 with fail
  change Code.wp _ _ _ _ ((w.alloc (.cells (cells5 xT (.slice none 0 0)) 25)).alloc (.cells (cells5 isT (.slice (some ⟨w.heap.size, 0, none⟩) 1 1)) 25))
  generalize (w.alloc (.cells (cells5 xT (.slice none 0 0)) 25)).alloc (.cells (cells5 isT (.slice (some ⟨w.heap.size, 0, none⟩) 1 1)) 25) = w1 at k2 hb1 hI hL1 ⊢
  have hmv : ∀ V : World, Below w1.heap.size w1 V → V.cell? ⟨w.heap.size + 1, 0, none⟩ = some (.int .i8 12) ∧ V.cell? ⟨w.heap.size + 1, 1, none⟩ = some (.int .i64 0) ∧ V.cell? ⟨w.heap.size + 1, 2, none⟩ = some (.string ⟨#[105, 115, 95, 105, 110, 116, 101, 103, 101, 114]⟩) ∧ V.cell? ⟨w.heap.size + 1, 3, none⟩ = some (.string ⟨#[]⟩) ∧ V.cell? ⟨w.heap.size + 1, 4, none⟩ = some (.slice (some ⟨w.heap.size, 0, none⟩) 1 1) := by
    intro V hv
    have hk := (hv.block _ (Array.getElem?_eq_some_iff.1 k2).1).trans k2
    exact ⟨(arr_cell hk).trans rfl, (arr_cell hk).trans rfl, (arr_cell hk).trans rfl, (arr_cell hk).trans rfl, (arr_cell hk).trans rfl⟩
  go_cut [2] (fun s2 wx => WkMid w1 s2 wx)
  case first =>
    have hB : Below w1.heap.size w1 w1.drew := below_drewN (Below.refl _ _) 1
    refine wp_region_held_drew (S := fun V => V.cell? ⟨w.heap.size + 1, 0, none⟩ = some (.int .i8 12) ∧ V.cell? ⟨w.heap.size + 1, 1, none⟩ = some (.int .i64 0) ∧ V.cell? ⟨w.heap.size + 1, 2, none⟩ = some (.string ⟨#[105, 115, 95, 105, 110, 116, 101, 103, 101, 114]⟩) ∧ V.cell? ⟨w.heap.size + 1, 3, none⟩ = some (.string ⟨#[]⟩) ∧ V.cell? ⟨w.heap.size + 1, 4, none⟩ = some (.slice (some ⟨w.heap.size, 0, none⟩) 1 1)) (by kernel_rfl) ?_ (fun hHeld => ?_)
    · (try dsimp only); exact hmv _ hB
    have hI := hI.below hB
    change wpAnyH _ _ _ _ _ _ _ _ (w1.drew)
    generalize w1.drew = V0 at hB hHeld hI ⊢
    refine wpAnyH_take (i := 0) (v := ?_) rfl (by kernel_rfl) (by kernel_rfl) (by kernel_rfl) (fun _ _ _ h => h) (Or.inl ⟨by rfl, ?_⟩) (by assumption) ?_
    rotate_left 1
    (intro w hSw; (try dsimp only at hSw); go_simp; try with_reducible rfl)
    (try simp only [List.getElem_toArray, List.getElem_cons_zero, Act.put, List.setIfInBounds_toArray, List.set_cons_zero, List.set_cons_succ])
    refine wpAnyH_take (i := 2) (v := ?_) rfl (by kernel_rfl) (by kernel_rfl) (by kernel_rfl) (fun _ _ _ h => h) (Or.inl ⟨by rfl, ?_⟩) (by assumption) ?_
    rotate_left 1
    (intro w hSw; (try dsimp only at hSw); go_simp; try with_reducible rfl)
    (try simp only [List.getElem_toArray, List.getElem_cons_succ, List.getElem_cons_zero, Act.put, List.setIfInBounds_toArray, List.set_cons_zero, List.set_cons_succ])
    refine wpAnyH_ready (rs := [1, 5]) (by kernel_rfl) (by simp) ?_
    refine (AllReadyH.cons rfl (fun K hK => ?_) (AllReadyH.cons rfl (fun K hK => ?_) AllReadyH.nil))
    · go_simp
      go_wp2_with (go_at_call 52; refine (more_any (F := fun _ => False) (w := V0) (n := n6) (sv := .slice none 0 0) ⟨wf_small _ _ _ _ _ (by decide) (by decide) (by decide) (by decide), Kids.nil _ _⟩).mono ?_; rintro e V1 ⟨pm, cm, rfl, hm, hst⟩)
      have hI := hI.below hst
      have hB := hB.trans (hst.mono hB.size)
      refine hK.out _ _ ?_ (fun hHeld => ?_)
      · (try dsimp only); exact hmv _ hB
      clear hK K hst
      (try simp only [List.getElem_toArray, List.getElem_cons_succ, List.getElem_cons_zero, Act.put, List.setIfInBounds_toArray, List.set_cons_zero, List.set_cons_succ])
      refine wpAnyH_ready (rs := [3, 5]) (by kernel_rfl) (by simp) ?_
      refine (AllReadyH.cons rfl (fun K hK => ?_) (AllReadyH.cons rfl (fun K hK => ?_) AllReadyH.nil))
      · go_simp
        have hst := alloc_below V1 (.cells #[.int .i8 11, .int .i64 0, .string ⟨#[62]⟩, .string ⟨#[]⟩, .slice pm 2 cm, .int .i8 12, .int .i64 0, .string ⟨#[105, 115, 95, 105, 110, 116, 101, 103, 101, 114]⟩, .string ⟨#[]⟩, .slice (some ⟨w.heap.size, 0, none⟩) 1 1] 25)
        have hs3 := heap_new V1 (.cells #[.int .i8 11, .int .i64 0, .string ⟨#[62]⟩, .string ⟨#[]⟩, .slice pm 2 cm, .int .i8 12, .int .i64 0, .string ⟨#[105, 115, 95, 105, 110, 116, 101, 103, 101, 114]⟩, .string ⟨#[]⟩, .slice (some ⟨w.heap.size, 0, none⟩) 1 1] 25)
        have hI := hI.below hst
        have hm := hm.below hst
        have hB := hB.trans (hst.mono hB.size)
        refine hK.out _ _ ?_ (fun hHeld => ?_)
        · (try dsimp only); exact hmv _ hB
        clear hK K hst
        (try simp only [List.getElem_toArray, List.getElem_cons_succ, List.getElem_cons_zero, Act.put, List.setIfInBounds_toArray, List.set_cons_zero, List.set_cons_succ])
        change wpAnyH _ _ _ _ _ _ _ _ (V1.alloc (.cells #[.int .i8 11, .int .i64 0, .string ⟨#[62]⟩, .string ⟨#[]⟩, .slice pm 2 cm, .int .i8 12, .int .i64 0, .string ⟨#[105, 115, 95, 105, 110, 116, 101, 103, 101, 114]⟩, .string ⟨#[]⟩, .slice (some ⟨w.heap.size, 0, none⟩) 1 1] 25))
        generalize V1.alloc (.cells #[.int .i8 11, .int .i64 0, .string ⟨#[62]⟩, .string ⟨#[]⟩, .slice pm 2 cm, .int .i8 12, .int .i64 0, .string ⟨#[105, 115, 95, 105, 110, 116, 101, 103, 101, 114]⟩, .string ⟨#[]⟩, .slice (some ⟨w.heap.size, 0, none⟩) 1 1] 25) = V2 at hB hHeld hI hm hs3 ⊢
        refine wpAnyH_take (i := 4) (v := ?_) rfl (by kernel_rfl) (by kernel_rfl) (by kernel_rfl) (fun _ _ _ h => h) (Or.inl ⟨by rfl, ?_⟩) (by assumption) ?_
        rotate_left 1
        (intro w hSw; (try dsimp only at hSw); go_simp; try with_reducible rfl)
        (try simp only [List.getElem_toArray, List.getElem_cons_succ, List.getElem_cons_zero, Act.put, List.setIfInBounds_toArray, List.set_cons_zero, List.set_cons_succ])
        refine wpAnyH_ready (rs := [5]) (by kernel_rfl) (by simp) ?_
        refine (AllReadyH.cons rfl (fun K hK => ?_) AllReadyH.nil)
        go_simp
        have hst := alloc_below V2 (.cells (cells5 zeroT (.slice none 0 0)) 25)
        have hn5 := heap_new V2 (.cells (cells5 zeroT (.slice none 0 0)) 25)
        have hge : w1.heap.size ≤ V2.heap.size := hB.size
        have hm := hm.mono (P' := fun g => g ≠ V2.heap.size) (fun g _ hl => Nat.ne_of_lt hl)
        have hI := hI.mono (P' := fun g => g ≠ V2.heap.size) (fun g _ hl => Nat.ne_of_lt hl)
        have hne : V1.heap.size ≠ V2.heap.size := Nat.ne_of_lt (Array.getElem?_eq_some_iff.1 hs3).1
        have hI := hI.below hst
        have hm := hm.below hst
        have hs3 := (hst.block _ (Array.getElem?_eq_some_iff.1 hs3).1).trans hs3
        have hB := hB.trans (hst.mono hB.size)
        refine hK.out _ _ ?_ (fun hHeld => ?_)
        · (try dsimp only); exact hmv _ hB
        clear hK K hst
        (try simp only [List.getElem_toArray, List.getElem_cons_succ, List.getElem_cons_zero, Act.put, List.setIfInBounds_toArray, List.set_cons_zero, List.set_cons_succ])
        change wpAnyH _ _ _ _ _ _ _ _ (V2.alloc (.cells (cells5 zeroT (.slice none 0 0)) 25))
        generalize V2.alloc (.cells (cells5 zeroT (.slice none 0 0)) 25) = V3 at hB hHeld hI hm hs3 hn5 ⊢
        refine wpAnyH_ready (rs := [6]) (by kernel_rfl) (by simp) ?_
        refine (AllReadyH.cons rfl (fun K hK => ?_) AllReadyH.nil)
        have hB := below_setRow (g := V2.heap.size) (cells := (cells5 yesT (.slice (some ⟨V1.heap.size, 0, none⟩) 2 2))) hB hge
        have hn6 := setRow_heap' (cells := (cells5 yesT (.slice (some ⟨V1.heap.size, 0, none⟩) 2 2))) hn5
        have hs6 := (setRow_ne (cells := (cells5 yesT (.slice (some ⟨V1.heap.size, 0, none⟩) 2 2))) hne).trans hs3
        have hm6 := hm.move (P' := fun _ => True) (fun g hg _ => setRow_ne (cells := (cells5 yesT (.slice (some ⟨V1.heap.size, 0, none⟩) 2 2))) hg) (fun _ _ _ => trivial)
        have hI6 := hI.move (P' := fun _ => True) (fun g hg _ => setRow_ne (cells := (cells5 yesT (.slice (some ⟨V1.heap.size, 0, none⟩) 2 2))) hg) (fun _ _ _ => trivial)
        refine step_store_row rfl 25 _ _ rfl (V2.heap.size) (cells5 yesT (.slice (some ⟨V1.heap.size, 0, none⟩) 2 2)) (by kernel_rfl) (by kernel_rfl) 25 (cells5 zeroT (.slice none 0 0)) hn5 (size25 _ _) (by kernel_rfl) (by kernel_rfl) ?_
        refine hK.out _ _ ?_ (fun hHeld => ?_)
        · (try dsimp only); exact hmv _ hB
        clear hK K
        (try simp only [List.getElem_toArray, List.getElem_cons_succ, List.getElem_cons_zero, Act.put])
        refine wpAnyH_done (by kernel_rfl) ?_ _
        go_wp2_with fail
        go_meet
        exact ⟨_, _, _, rfl, hn6, ⟨wf_small _ _ _ _ _ (by decide) (by decide) (by decide) (by decide), kids_two ⟨(arr_cell hs6).trans rfl, (arr_cell hs6).trans rfl, (arr_cell hs6).trans rfl, (arr_cell hs6).trans rfl, (arr_cell hs6).trans rfl⟩ ⟨(arr_cell hs6).trans rfl, (arr_cell hs6).trans rfl, (arr_cell hs6).trans rfl, (arr_cell hs6).trans rfl, (arr_cell hs6).trans rfl⟩ hm6 hI6 trivial⟩, hB⟩
      · go_simp
        have hst := alloc_below V1 (.cells (cells5 zeroT (.slice none 0 0)) 25)
        have hn5 := heap_new V1 (.cells (cells5 zeroT (.slice none 0 0)) 25)
        have hge : w1.heap.size ≤ V1.heap.size := hB.size
        have hm := hm.mono (P' := fun g => g ≠ V1.heap.size) (fun g _ hl => Nat.ne_of_lt hl)
        have hI := hI.mono (P' := fun g => g ≠ V1.heap.size) (fun g _ hl => Nat.ne_of_lt hl)
        have hI := hI.below hst
        have hm := hm.below hst
        have hB := hB.trans (hst.mono hB.size)
        refine hK.out _ _ ?_ (fun hHeld => ?_)
        · (try dsimp only); exact hmv _ hB
        clear hK K hst
        (try simp only [List.getElem_toArray, List.getElem_cons_succ, List.getElem_cons_zero, Act.put, List.setIfInBounds_toArray, List.set_cons_zero, List.set_cons_succ])
        change wpAnyH _ _ _ _ _ _ _ _ (V1.alloc (.cells (cells5 zeroT (.slice none 0 0)) 25))
        generalize V1.alloc (.cells (cells5 zeroT (.slice none 0 0)) 25) = V5 at hB hHeld hI hm hn5 ⊢
        refine wpAnyH_ready (rs := [3]) (by kernel_rfl) (by simp) ?_
        refine (AllReadyH.cons rfl (fun K hK => ?_) AllReadyH.nil)
        go_simp
        have hst := alloc_below V5 (.cells #[.int .i8 11, .int .i64 0, .string ⟨#[62]⟩, .string ⟨#[]⟩, .slice pm 2 cm, .int .i8 12, .int .i64 0, .string ⟨#[105, 115, 95, 105, 110, 116, 101, 103, 101, 114]⟩, .string ⟨#[]⟩, .slice (some ⟨w.heap.size, 0, none⟩) 1 1] 25)
        have hs3 := heap_new V5 (.cells #[.int .i8 11, .int .i64 0, .string ⟨#[62]⟩, .string ⟨#[]⟩, .slice pm 2 cm, .int .i8 12, .int .i64 0, .string ⟨#[105, 115, 95, 105, 110, 116, 101, 103, 101, 114]⟩, .string ⟨#[]⟩, .slice (some ⟨w.heap.size, 0, none⟩) 1 1] 25)
        have hne : V5.heap.size ≠ V1.heap.size := Nat.ne_of_gt (Array.getElem?_eq_some_iff.1 hn5).1
        have hI := hI.below hst
        have hm := hm.below hst
        have hn5 := (hst.block _ (Array.getElem?_eq_some_iff.1 hn5).1).trans hn5
        have hB := hB.trans (hst.mono hB.size)
        refine hK.out _ _ ?_ (fun hHeld => ?_)
        · (try dsimp only); exact hmv _ hB
        clear hK K hst
        (try simp only [List.getElem_toArray, List.getElem_cons_succ, List.getElem_cons_zero, Act.put, List.setIfInBounds_toArray, List.set_cons_zero, List.set_cons_succ])
        change wpAnyH _ _ _ _ _ _ _ _ (V5.alloc (.cells #[.int .i8 11, .int .i64 0, .string ⟨#[62]⟩, .string ⟨#[]⟩, .slice pm 2 cm, .int .i8 12, .int .i64 0, .string ⟨#[105, 115, 95, 105, 110, 116, 101, 103, 101, 114]⟩, .string ⟨#[]⟩, .slice (some ⟨w.heap.size, 0, none⟩) 1 1] 25))
        generalize V5.alloc (.cells #[.int .i8 11, .int .i64 0, .string ⟨#[62]⟩, .string ⟨#[]⟩, .slice pm 2 cm, .int .i8 12, .int .i64 0, .string ⟨#[105, 115, 95, 105, 110, 116, 101, 103, 101, 114]⟩, .string ⟨#[]⟩, .slice (some ⟨w.heap.size, 0, none⟩) 1 1] 25) = V6 at hB hHeld hI hm hn5 hs3 ⊢
        refine wpAnyH_take (i := 4) (v := ?_) rfl (by kernel_rfl) (by kernel_rfl) (by kernel_rfl) (fun _ _ _ h => h) (Or.inl ⟨by rfl, ?_⟩) (by assumption) ?_
        rotate_left 1
        (intro w hSw; (try dsimp only at hSw); go_simp; try with_reducible rfl)
        (try simp only [List.getElem_toArray, List.getElem_cons_succ, List.getElem_cons_zero, Act.put, List.setIfInBounds_toArray, List.set_cons_zero, List.set_cons_succ])
        refine wpAnyH_ready (rs := [6]) (by kernel_rfl) (by simp) ?_
        refine (AllReadyH.cons rfl (fun K hK => ?_) AllReadyH.nil)
        have hB := below_setRow (g := V1.heap.size) (cells := (cells5 yesT (.slice (some ⟨V5.heap.size, 0, none⟩) 2 2))) hB hge
        have hn6 := setRow_heap' (cells := (cells5 yesT (.slice (some ⟨V5.heap.size, 0, none⟩) 2 2))) hn5
        have hs6 := (setRow_ne (cells := (cells5 yesT (.slice (some ⟨V5.heap.size, 0, none⟩) 2 2))) hne).trans hs3
        have hm6 := hm.move (P' := fun _ => True) (fun g hg _ => setRow_ne (cells := (cells5 yesT (.slice (some ⟨V5.heap.size, 0, none⟩) 2 2))) hg) (fun _ _ _ => trivial)
        have hI6 := hI.move (P' := fun _ => True) (fun g hg _ => setRow_ne (cells := (cells5 yesT (.slice (some ⟨V5.heap.size, 0, none⟩) 2 2))) hg) (fun _ _ _ => trivial)
        refine step_store_row rfl 25 _ _ rfl (V1.heap.size) (cells5 yesT (.slice (some ⟨V5.heap.size, 0, none⟩) 2 2)) (by kernel_rfl) (by kernel_rfl) 25 (cells5 zeroT (.slice none 0 0)) hn5 (size25 _ _) (by kernel_rfl) (by kernel_rfl) ?_
        refine hK.out _ _ ?_ (fun hHeld => ?_)
        · (try dsimp only); exact hmv _ hB
        clear hK K
        (try simp only [List.getElem_toArray, List.getElem_cons_succ, List.getElem_cons_zero, Act.put])
        refine wpAnyH_done (by kernel_rfl) ?_ _
        go_wp2_with fail
        go_meet
        exact ⟨_, _, _, rfl, hn6, ⟨wf_small _ _ _ _ _ (by decide) (by decide) (by decide) (by decide), kids_two ⟨(arr_cell hs6).trans rfl, (arr_cell hs6).trans rfl, (arr_cell hs6).trans rfl, (arr_cell hs6).trans rfl, (arr_cell hs6).trans rfl⟩ ⟨(arr_cell hs6).trans rfl, (arr_cell hs6).trans rfl, (arr_cell hs6).trans rfl, (arr_cell hs6).trans rfl, (arr_cell hs6).trans rfl⟩ hm6 hI6 trivial⟩, hB⟩
    · go_simp
      have hst := alloc_below V0 (.cells (cells5 zeroT (.slice none 0 0)) 25)
      have hn5 := heap_new V0 (.cells (cells5 zeroT (.slice none 0 0)) 25)
      have hge : w1.heap.size ≤ V0.heap.size := hB.size
      have hI := hI.mono (P' := fun g => g ≠ V0.heap.size) (fun g _ hl => Nat.ne_of_lt hl)
      have hI := hI.below hst
      have hB := hB.trans (hst.mono hB.size)
      refine hK.out _ _ ?_ (fun hHeld => ?_)
      · (try dsimp only); exact hmv _ hB
      clear hK K hst
      (try simp only [List.getElem_toArray, List.getElem_cons_succ, List.getElem_cons_zero, Act.put, List.setIfInBounds_toArray, List.set_cons_zero, List.set_cons_succ])
      change wpAnyH _ _ _ _ _ _ _ _ (V0.alloc (.cells (cells5 zeroT (.slice none 0 0)) 25))
      generalize V0.alloc (.cells (cells5 zeroT (.slice none 0 0)) 25) = V8 at hB hHeld hI hn5 ⊢
      refine wpAnyH_ready (rs := [1]) (by kernel_rfl) (by simp) ?_
      refine (AllReadyH.cons rfl (fun K hK => ?_) AllReadyH.nil)
      go_simp
      go_wp2_with (go_at_call 52; refine (more_any (F := fun _ => False) (w := V8) (n := n6) (sv := .slice none 0 0) ⟨wf_small _ _ _ _ _ (by decide) (by decide) (by decide) (by decide), Kids.nil _ _⟩).mono ?_; rintro e V9 ⟨pm, cm, rfl, hm, hst⟩)
      have hm := hm.mono (P' := fun g => g ≠ V0.heap.size) (fun g hg _ => by have := (Array.getElem?_eq_some_iff.1 hn5).1; rcases hg with h | h; exact h.elim; omega)
      have hI := hI.below hst
      have hn5 := (hst.block _ (Array.getElem?_eq_some_iff.1 hn5).1).trans hn5
      have hB := hB.trans (hst.mono hB.size)
      refine hK.out _ _ ?_ (fun hHeld => ?_)
      · (try dsimp only); exact hmv _ hB
      clear hK K hst
      (try simp only [List.getElem_toArray, List.getElem_cons_succ, List.getElem_cons_zero, Act.put, List.setIfInBounds_toArray, List.set_cons_zero, List.set_cons_succ])
      refine wpAnyH_ready (rs := [3]) (by kernel_rfl) (by simp) ?_
      refine (AllReadyH.cons rfl (fun K hK => ?_) AllReadyH.nil)
      go_simp
      have hst := alloc_below V9 (.cells #[.int .i8 11, .int .i64 0, .string ⟨#[62]⟩, .string ⟨#[]⟩, .slice pm 2 cm, .int .i8 12, .int .i64 0, .string ⟨#[105, 115, 95, 105, 110, 116, 101, 103, 101, 114]⟩, .string ⟨#[]⟩, .slice (some ⟨w.heap.size, 0, none⟩) 1 1] 25)
      have hs3 := heap_new V9 (.cells #[.int .i8 11, .int .i64 0, .string ⟨#[62]⟩, .string ⟨#[]⟩, .slice pm 2 cm, .int .i8 12, .int .i64 0, .string ⟨#[105, 115, 95, 105, 110, 116, 101, 103, 101, 114]⟩, .string ⟨#[]⟩, .slice (some ⟨w.heap.size, 0, none⟩) 1 1] 25)
      have hne : V9.heap.size ≠ V0.heap.size := Nat.ne_of_gt (Array.getElem?_eq_some_iff.1 hn5).1
      have hI := hI.below hst
      have hn5 := (hst.block _ (Array.getElem?_eq_some_iff.1 hn5).1).trans hn5
      have hm := hm.below hst
      have hB := hB.trans (hst.mono hB.size)
      refine hK.out _ _ ?_ (fun hHeld => ?_)
      · (try dsimp only); exact hmv _ hB
      clear hK K hst
      (try simp only [List.getElem_toArray, List.getElem_cons_succ, List.getElem_cons_zero, Act.put, List.setIfInBounds_toArray, List.set_cons_zero, List.set_cons_succ])
      change wpAnyH _ _ _ _ _ _ _ _ (V9.alloc (.cells #[.int .i8 11, .int .i64 0, .string ⟨#[62]⟩, .string ⟨#[]⟩, .slice pm 2 cm, .int .i8 12, .int .i64 0, .string ⟨#[105, 115, 95, 105, 110, 116, 101, 103, 101, 114]⟩, .string ⟨#[]⟩, .slice (some ⟨w.heap.size, 0, none⟩) 1 1] 25))
      generalize V9.alloc (.cells #[.int .i8 11, .int .i64 0, .string ⟨#[62]⟩, .string ⟨#[]⟩, .slice pm 2 cm, .int .i8 12, .int .i64 0, .string ⟨#[105, 115, 95, 105, 110, 116, 101, 103, 101, 114]⟩, .string ⟨#[]⟩, .slice (some ⟨w.heap.size, 0, none⟩) 1 1] 25) = V10 at hB hHeld hI hn5 hm hs3 ⊢
      refine wpAnyH_take (i := 4) (v := ?_) rfl (by kernel_rfl) (by kernel_rfl) (by kernel_rfl) (fun _ _ _ h => h) (Or.inl ⟨by rfl, ?_⟩) (by assumption) ?_
      rotate_left 1
      (intro w hSw; (try dsimp only at hSw); go_simp; try with_reducible rfl)
      (try simp only [List.getElem_toArray, List.getElem_cons_succ, List.getElem_cons_zero, Act.put, List.setIfInBounds_toArray, List.set_cons_zero, List.set_cons_succ])
      refine wpAnyH_ready (rs := [6]) (by kernel_rfl) (by simp) ?_
      refine (AllReadyH.cons rfl (fun K hK => ?_) AllReadyH.nil)
      have hB := below_setRow (g := V0.heap.size) (cells := (cells5 yesT (.slice (some ⟨V9.heap.size, 0, none⟩) 2 2))) hB hge
      have hn6 := setRow_heap' (cells := (cells5 yesT (.slice (some ⟨V9.heap.size, 0, none⟩) 2 2))) hn5
      have hs6 := (setRow_ne (cells := (cells5 yesT (.slice (some ⟨V9.heap.size, 0, none⟩) 2 2))) hne).trans hs3
      have hm6 := hm.move (P' := fun _ => True) (fun g hg _ => setRow_ne (cells := (cells5 yesT (.slice (some ⟨V9.heap.size, 0, none⟩) 2 2))) hg) (fun _ _ _ => trivial)
      have hI6 := hI.move (P' := fun _ => True) (fun g hg _ => setRow_ne (cells := (cells5 yesT (.slice (some ⟨V9.heap.size, 0, none⟩) 2 2))) hg) (fun _ _ _ => trivial)
      refine step_store_row rfl 25 _ _ rfl (V0.heap.size) (cells5 yesT (.slice (some ⟨V9.heap.size, 0, none⟩) 2 2)) (by kernel_rfl) (by kernel_rfl) 25 (cells5 zeroT (.slice none 0 0)) hn5 (size25 _ _) (by kernel_rfl) (by kernel_rfl) ?_
      refine hK.out _ _ ?_ (fun hHeld => ?_)
      · (try dsimp only); exact hmv _ hB
      clear hK K
      (try simp only [List.getElem_toArray, List.getElem_cons_succ, List.getElem_cons_zero, Act.put])
      refine wpAnyH_done (by kernel_rfl) ?_ _
      go_wp2_with fail
      go_meet
      exact ⟨_, _, _, rfl, hn6, ⟨wf_small _ _ _ _ _ (by decide) (by decide) (by decide) (by decide), kids_two ⟨(arr_cell hs6).trans rfl, (arr_cell hs6).trans rfl, (arr_cell hs6).trans rfl, (arr_cell hs6).trans rfl, (arr_cell hs6).trans rfl⟩ ⟨(arr_cell hs6).trans rfl, (arr_cell hs6).trans rfl, (arr_cell hs6).trans rfl, (arr_cell hs6).trans rfl, (arr_cell hs6).trans rfl⟩ hm6 hI6 trivial⟩, hB⟩
  case rest =>
  obtain ⟨b2, py, cy, rfl, hn2, hY, hBc⟩ := hcut
  have k3 := (hBc.block _ (Array.getElem?_eq_some_iff.1 k2).1).trans k2
  have hI := hI.below hBc
  have hLw := hL1.under hBc
  have HBW := Lib.hid (hb1.trans (hBc.mono hb1.size))
  clear hmv k2 hb1 hL1 hBc
  have hmv : ∀ V : World, Below wc.heap.size wc V → V.cell? ⟨b2, 0, none⟩ = some (.int .i8 4) ∧ V.cell? ⟨b2, 1, none⟩ = some (.int .i64 0) ∧ V.cell? ⟨b2, 2, none⟩ = some (.string ⟨#[]⟩) ∧ V.cell? ⟨b2, 3, none⟩ = some (.string ⟨#[]⟩) ∧ V.cell? ⟨b2, 4, none⟩ = some (.slice py 2 cy) ∧ V.cell? ⟨w.heap.size + 1, 0, none⟩ = some (.int .i8 12) ∧ V.cell? ⟨w.heap.size + 1, 1, none⟩ = some (.int .i64 0) ∧ V.cell? ⟨w.heap.size + 1, 2, none⟩ = some (.string ⟨#[105, 115, 95, 105, 110, 116, 101, 103, 101, 114]⟩) ∧ V.cell? ⟨w.heap.size + 1, 3, none⟩ = some (.string ⟨#[]⟩) ∧ V.cell? ⟨w.heap.size + 1, 4, none⟩ = some (.slice (some ⟨w.heap.size, 0, none⟩) 1 1) := by
    intro V hv
    have hk := (hv.block _ (Array.getElem?_eq_some_iff.1 k3).1).trans k3
    have hj := (hv.block _ (Array.getElem?_eq_some_iff.1 hn2).1).trans hn2
    exact ⟨(arr_cell hj).trans rfl, (arr_cell hj).trans rfl, (arr_cell hj).trans rfl, (arr_cell hj).trans rfl, (arr_cell hj).trans rfl, (arr_cell hk).trans rfl, (arr_cell hk).trans rfl, (arr_cell hk).trans rfl, (arr_cell hk).trans rfl, (arr_cell hk).trans rfl⟩
  have hyes := yes_holds
  have hno := no_holds
  have his := is_holds
  go_upto_region 3 with fail
  have hB : Below wc.heap.size wc wc.drew := below_drewN (Below.refl _ _) 1
  refine wp_region_held_drew (S := fun V => V.cell? ⟨b2, 0, none⟩ = some (.int .i8 4) ∧ V.cell? ⟨b2, 1, none⟩ = some (.int .i64 0) ∧ V.cell? ⟨b2, 2, none⟩ = some (.string ⟨#[]⟩) ∧ V.cell? ⟨b2, 3, none⟩ = some (.string ⟨#[]⟩) ∧ V.cell? ⟨b2, 4, none⟩ = some (.slice py 2 cy) ∧ V.cell? ⟨w.heap.size + 1, 0, none⟩ = some (.int .i8 12) ∧ V.cell? ⟨w.heap.size + 1, 1, none⟩ = some (.int .i64 0) ∧ V.cell? ⟨w.heap.size + 1, 2, none⟩ = some (.string ⟨#[105, 115, 95, 105, 110, 116, 101, 103, 101, 114]⟩) ∧ V.cell? ⟨w.heap.size + 1, 3, none⟩ = some (.string ⟨#[]⟩) ∧ V.cell? ⟨w.heap.size + 1, 4, none⟩ = some (.slice (some ⟨w.heap.size, 0, none⟩) 1 1)) (by kernel_rfl) ?_ (fun hHeld => ?_)
  · (try dsimp only); exact hmv _ hB
  have hI := hI.below hB
  have hY := hY.below hB
  change wpAnyH _ _ _ _ _ _ _ _ (wc.drew)
  generalize wc.drew = U0 at hB hHeld hI hY ⊢
  refine wpAnyH_take (i := 0) (v := ?_) rfl (by kernel_rfl) (by kernel_rfl) (by kernel_rfl) (fun _ _ _ h => h) (Or.inl ⟨by rfl, ?_⟩) (by assumption) ?_
  rotate_left 1
  (intro w hSw; (try dsimp only at hSw); go_simp; try with_reducible rfl)
  (try simp only [List.getElem_toArray, List.getElem_cons_zero, Act.put, List.setIfInBounds_toArray, List.set_cons_zero, List.set_cons_succ])
  refine wpAnyH_ready (rs := [1]) (by kernel_rfl) (by simp) ?_
  refine (AllReadyH.cons rfl (fun K hK => ?_) AllReadyH.nil)
  go_simp
  go_wp2_with (go_at_call 53; refine (binds11_any U0).mono ?_; rintro e U1 ⟨bb, rfl, hbd, hst⟩)
  have hI := hI.below hst
  have hY := hY.below hst
  have hB := hB.trans (hst.mono hB.size)
  refine hK.out _ _ ?_ (fun hHeld => ?_)
  · (try dsimp only); exact hmv _ hB
  clear hK K hst
  (try simp only [List.getElem_toArray, List.getElem_cons_succ, List.getElem_cons_zero, Act.put, List.setIfInBounds_toArray, List.set_cons_zero, List.set_cons_succ])
  refine wpAnyH_ready (rs := [2]) (by kernel_rfl) (by simp) ?_
  refine (AllReadyH.cons rfl (fun K hK => ?_) AllReadyH.nil)
  have cH : Calls Tryz.prog 18 #[.agg #[.int .i8 4, .int .i64 0, .string ⟨#[]⟩, .string ⟨#[]⟩, .slice py 2 cy], .slice (some ⟨bb, 0, none⟩) 1 1] U1 fun e w' => e = .returned (.bool true) ∧ Below U1.heap.size U1 w' := by have := gHolds_any (hLw.under hB) hY hbd; rw [hyes] at this; exact this
  go_simp
  go_wp2_with (go_at_call 18; refine cH.mono ?_; rintro e U2 ⟨rfl, hst⟩)
  clear cH
  have hI := hI.below hst
  have hY := hY.below hst
  have hbd := hbd.under hst
  have hB := hB.trans (hst.mono hB.size)
  refine hK.out _ _ ?_ (fun hHeld => ?_)
  · (try dsimp only); exact hmv _ hB
  clear hK K hst
  (try simp only [List.getElem_toArray, List.getElem_cons_succ, List.getElem_cons_zero, Act.put, List.setIfInBounds_toArray, List.set_cons_zero, List.set_cons_succ])
  refine wpAnyH_take (i := 3) (v := ?_) rfl (by kernel_rfl) (by kernel_rfl) (by kernel_rfl) (fun _ _ _ h => h) (Or.inl ⟨by rfl, ?_⟩) (by assumption) ?_
  rotate_left 1
  (intro w hSw; (try dsimp only at hSw); go_simp; try with_reducible rfl)
  (try simp only [List.getElem_toArray, List.getElem_cons_succ, List.getElem_cons_zero, Act.put, List.setIfInBounds_toArray, List.set_cons_zero, List.set_cons_succ])
  refine wpAnyH_take (i := 4) (v := ?_) rfl (by kernel_rfl) (by kernel_rfl) (by kernel_rfl) (fun _ _ _ h => h) (Or.inl ⟨by rfl, ?_⟩) (by assumption) ?_
  rotate_left 1
  (intro w hSw; (try dsimp only at hSw); go_simp; try with_reducible rfl)
  (try simp only [List.getElem_toArray, List.getElem_cons_succ, List.getElem_cons_zero, Act.put, List.setIfInBounds_toArray, List.set_cons_zero, List.set_cons_succ])
  refine wpAnyH_ready (rs := [5]) (by kernel_rfl) (by simp) ?_
  refine (AllReadyH.cons rfl (fun K hK => ?_) AllReadyH.nil)
  go_simp
  go_wp2_with (go_at_call 52; refine (more_any (F := fun _ => True) (w := U2) (n := aT) (sv := .slice none 0 0) ⟨wf_small _ _ _ _ _ (by decide) (by decide) (by decide) (by decide), Kids.nil _ _⟩).mono ?_; rintro e U3 ⟨pm, cm, rfl, hm, hst⟩)
  have hI := hI.below hst
  have hY := hY.below hst
  have hbd := hbd.under hst
  have hB := hB.trans (hst.mono hB.size)
  refine hK.out _ _ ?_ (fun hHeld => ?_)
  · (try dsimp only); exact hmv _ hB
  clear hK K hst
  (try simp only [List.getElem_toArray, List.getElem_cons_succ, List.getElem_cons_zero, Act.put, List.setIfInBounds_toArray, List.set_cons_zero, List.set_cons_succ])
  refine wpAnyH_ready (rs := [6]) (by kernel_rfl) (by simp) ?_
  refine (AllReadyH.cons rfl (fun K hK => ?_) AllReadyH.nil)
  go_simp
  go_wp2_with (go_at_call 53; refine (binds11_any U3).mono ?_; rintro e U4 ⟨bb, rfl, hbd, hst⟩)
  have hI := hI.below hst
  have hY := hY.below hst
  have hm := hm.below hst
  have hB := hB.trans (hst.mono hB.size)
  refine hK.out _ _ ?_ (fun hHeld => ?_)
  · (try dsimp only); exact hmv _ hB
  clear hK K hst
  (try simp only [List.getElem_toArray, List.getElem_cons_succ, List.getElem_cons_zero, Act.put, List.setIfInBounds_toArray, List.set_cons_zero, List.set_cons_succ])
  refine wpAnyH_ready (rs := [7]) (by kernel_rfl) (by simp) ?_
  refine (AllReadyH.cons rfl (fun K hK => ?_) AllReadyH.nil)
  have cH : Calls Tryz.prog 17 #[.agg #[.int .i8 11, .int .i64 0, .string ⟨#[62]⟩, .string ⟨#[]⟩, .slice pm 2 cm], .slice (some ⟨bb, 0, none⟩) 1 1] U4 fun e w' => e = .returned (.bool false) ∧ Below U4.heap.size U4 w' := by have := gTest_any (hLw.under hB) hm hbd; rw [hno] at this; exact this
  go_simp
  go_wp2_with (go_at_call 17; refine cH.mono ?_; rintro e U5 ⟨rfl, hst⟩)
  clear cH
  have hI := hI.below hst
  have hY := hY.below hst
  have hbd := hbd.under hst
  have hm := hm.below hst
  have hB := hB.trans (hst.mono hB.size)
  refine hK.out _ _ ?_ (fun hHeld => ?_)
  · (try dsimp only); exact hmv _ hB
  clear hK K hst
  (try simp only [List.getElem_toArray, List.getElem_cons_succ, List.getElem_cons_zero, Act.put, List.setIfInBounds_toArray, List.set_cons_zero, List.set_cons_succ])
  refine wpAnyH_take (i := 8) (v := ?_) rfl (by kernel_rfl) (by kernel_rfl) (by kernel_rfl) (fun _ _ _ h => h) (Or.inl ⟨by rfl, ?_⟩) (by assumption) ?_
  rotate_left 1
  (intro w hSw; (try dsimp only at hSw); go_simp; try with_reducible rfl)
  (try simp only [List.getElem_toArray, List.getElem_cons_succ, List.getElem_cons_zero, Act.put, List.setIfInBounds_toArray, List.set_cons_zero, List.set_cons_succ])
  refine wpAnyH_take (i := 9) (v := ?_) rfl (by kernel_rfl) (by kernel_rfl) (by kernel_rfl) (fun _ _ _ h => h) (Or.inl ⟨by rfl, ?_⟩) (by assumption) ?_
  rotate_left 1
  (intro w hSw; (try dsimp only at hSw); go_simp; try with_reducible rfl)
  (try simp only [List.getElem_toArray, List.getElem_cons_succ, List.getElem_cons_zero, Act.put, List.setIfInBounds_toArray, List.set_cons_zero, List.set_cons_succ])
  refine wpAnyH_take (i := 10) (v := ?_) rfl (by kernel_rfl) (by kernel_rfl) (by kernel_rfl) (fun _ _ _ h => h) (Or.inl ⟨by rfl, ?_⟩) (by assumption) ?_
  rotate_left 1
  (intro w hSw; (try dsimp only at hSw); go_simp; try with_reducible rfl)
  (try simp only [List.getElem_toArray, List.getElem_cons_succ, List.getElem_cons_zero, Act.put, List.setIfInBounds_toArray, List.set_cons_zero, List.set_cons_succ])
  refine wpAnyH_take (i := 11) (v := ?_) rfl (by kernel_rfl) (by kernel_rfl) (by kernel_rfl) (fun _ _ _ h => h) (Or.inl ⟨by rfl, ?_⟩) (by assumption) ?_
  rotate_left 1
  (intro w hSw; (try dsimp only at hSw); go_simp; try with_reducible rfl)
  (try simp only [List.getElem_toArray, List.getElem_cons_succ, List.getElem_cons_zero, Act.put, List.setIfInBounds_toArray, List.set_cons_zero, List.set_cons_succ])
  refine wpAnyH_ready (rs := [12]) (by kernel_rfl) (by simp) ?_
  refine (AllReadyH.cons rfl (fun K hK => ?_) AllReadyH.nil)
  go_simp
  go_wp2_with (go_at_call 53; refine (binds11_any U5).mono ?_; rintro e U6 ⟨bb, rfl, hbd, hst⟩)
  have hI := hI.below hst
  have hY := hY.below hst
  have hm := hm.below hst
  have hB := hB.trans (hst.mono hB.size)
  refine hK.out _ _ ?_ (fun hHeld => ?_)
  · (try dsimp only); exact hmv _ hB
  clear hK K hst
  (try simp only [List.getElem_toArray, List.getElem_cons_succ, List.getElem_cons_zero, Act.put, List.setIfInBounds_toArray, List.set_cons_zero, List.set_cons_succ])
  refine wpAnyH_ready (rs := [13]) (by kernel_rfl) (by simp) ?_
  refine (AllReadyH.cons rfl (fun K hK => ?_) AllReadyH.nil)
  have cH : Calls Tryz.prog 17 #[.agg #[.int .i8 12, .int .i64 0, .string ⟨#[105, 115, 95, 105, 110, 116, 101, 103, 101, 114]⟩, .string ⟨#[]⟩, .slice (some ⟨w.heap.size, 0, none⟩) 1 1], .slice (some ⟨bb, 0, none⟩) 1 1] U6 fun e w' => e = .returned (.bool true) ∧ Below U6.heap.size U6 w' := by have := gTest_any (hLw.under hB) hI hbd; rw [his] at this; exact this
  go_simp
  go_wp2_with (go_at_call 17; refine cH.mono ?_; rintro e U7 ⟨rfl, hst⟩)
  clear cH
  have hI := hI.below hst
  have hY := hY.below hst
  have hbd := hbd.under hst
  have hm := hm.below hst
  have hB := hB.trans (hst.mono hB.size)
  refine hK.out _ _ ?_ (fun hHeld => ?_)
  · (try dsimp only); exact hmv _ hB
  clear hK K hst
  (try simp only [List.getElem_toArray, List.getElem_cons_succ, List.getElem_cons_zero, Act.put, List.setIfInBounds_toArray, List.set_cons_zero, List.set_cons_succ])
  refine wpAnyH_take (i := 14) (v := ?_) rfl (by kernel_rfl) (by kernel_rfl) (by kernel_rfl) (fun _ _ _ h => h) (Or.inl ⟨by rfl, ?_⟩) (by assumption) ?_
  rotate_left 1
  (intro w hSw; (try dsimp only at hSw); go_simp; try with_reducible rfl)
  (try simp only [List.getElem_toArray, List.getElem_cons_succ, List.getElem_cons_zero, Act.put, List.setIfInBounds_toArray, List.set_cons_zero, List.set_cons_succ])
  refine wpAnyH_take (i := 15) (v := ?_) rfl (by kernel_rfl) (by kernel_rfl) (by kernel_rfl) (fun _ _ _ h => h) (Or.inl ⟨by rfl, ?_⟩) (by assumption) ?_
  rotate_left 1
  (intro w hSw; (try dsimp only at hSw); go_simp; try with_reducible rfl)
  (try simp only [List.getElem_toArray, List.getElem_cons_succ, List.getElem_cons_zero, Act.put, List.setIfInBounds_toArray, List.set_cons_zero])
  refine wpAnyH_done (by kernel_rfl) ?_ _
  go_wp2_with fail
  go_ret
  exact ⟨rfl, HBW.out.trans (hB.mono HBW.out.size)⟩
end Go.Proofs.YtlhobpknflobgaaGreatDoor
