/-
  ast.asks at a pattern's table, whole; ast.pattern. Conditions: the tree lies as 'TrV' says, the letters as 'Letters' says.
-/
import Derived.Test.YtjnmdbfijdnaiaaGreatDoorAst14
namespace Go.Proofs.YtjnmdbfijdnaiaaGreatDoor
open Go.RowKit

theorem patl_all : ∀ l : List Tr, Tr.pat.patl l = l.all Tr.pat
  | [] => rfl
  | x :: r => by rw [Tr.pat.patl, patl_all r, List.all_cons]

theorem asksPat_any {F : Nat → Prop} {w : World} {b g o bm : Nat} {x : Tr} {sv : Value} (hL : Letters w) (h : NodeAt w g o x sv) (hx : TrV F w x sv) (hb : w.heap[b]? = some (.cells (partsV bm) 106 (0, 0)))
    (hm : w.cell? ⟨bm, 0, none⟩ = some (.func (Fn.func 57) #[] #[])) (hf : ∀ y ∈ x.l, RuleSays F 57 Tr.pat w y) :
    Calls Tryz.prog 78 #[.pointer (some ⟨b, 0, none⟩), .pointer (some ⟨g, o, none⟩)] w fun e w' => e = .returned (.bool x.pat) ∧ Below w.heap.size w w' := by
  have hwf := hx.wf
  have hk8 : ∀ W, Below w.heap.size w W → NodeAt W g o x sv := fun W hW => h.keep (hW.block g h.lt)
  obtain ⟨p, c, rfl⟩ := hx.kids.slice
  by_cases h5 : x.k = 5
  · have e : x.pat = (bareB x false true false false && nameA x.s) := by rw [pat_eq]; simp [leafB, h5]
    rw [e]
    exact asks5_any h h5 ((arr_cell hb).trans rfl) fun W hW => lf1_any (hk8 W hW) hwf
  by_cases h6 : x.k = 6
  · have e : x.pat = (bareB x true false false false && mayI x.n) := by rw [pat_eq]; simp [leafB, h6]
    rw [e]
    exact asks6_any h h6 ((arr_cell hb).trans rfl) fun W hW => lf2_any (hk8 W hW)
  by_cases h7 : x.k = 7
  · have e : x.pat = (bareB x false true false false && atomN x.s) := by rw [pat_eq]; simp [leafB, h7]
    rw [e]
    exact asks7_any h h7 ((arr_cell hb).trans rfl) fun W hW => lf3_any (hL.under hW) (hk8 W hW) hwf
  by_cases h8 : x.k = 8
  · have e : x.pat = bareB x false false false false := by rw [pat_eq]; simp [leafB, h8]
    rw [e]
    exact asks8_any h h8 ((arr_cell hb).trans rfl) fun W hW => lf4_any (hk8 W hW)
  have hmk : ∀ W, Below w.heap.size w W → W.cell? ⟨bm, 0, none⟩ = some (.func (Fn.func 57) #[] #[]) := fun W hW => (hW.cell (p := ⟨bm, 0, none⟩) (cell_block hm)).trans hm
  by_cases h10 : x.k = 10
  · have e : x.pat = (bareB x false false false true && x.l.all Tr.pat) := by rw [pat_eq, patl_all]; simp [leafB, h10]
    rw [e]
    exact asks10_any h h10 ((arr_cell hb).trans rfl) fun W hW => pt1_any (hk8 W hW) (hx.below hW) (hmk W hW) fun y hy => (hf y hy).under hW
  by_cases h9 : x.k = 9
  · have e : x.pat = (bareB x false false false true && ((x.l.length : Int) == 2 && x.l.all Tr.pat)) := by
      rw [pat_eq, patl_all]; simp [leafB, h9]
      cases bareB x false false false true <;> simp
    rw [e]
    exact asks9_any h h9 ((arr_cell hb).trans rfl) fun W hW => pt2_any (hk8 W hW) (hx.below hW) (hmk W hW) fun y hy => (hf y hy).under hW
  have e : x.pat = false := by
    rw [pat_eq]; simp [leafB, h5, h6, h7, h8, h9, h10]
  rw [e]
  by_cases hr : x.k < 0 ∨ 22 ≤ x.k
  · exact asksOut_any h hr hwf
  · refine asksNil_any h (by omega) (by omega) ((arr_cell hb).trans ?_)
    obtain ⟨k, hk⟩ : ∃ k : Nat, x.k = (k : Int) := ⟨x.k.toNat, by omega⟩
    rw [hk] at h5 h6 h7 h8 h9 h10 hr ⊢
    rw [Int.toNat_natCast]
    have : k < 22 := by omega
    have hc : k = 0 ∨ k = 1 ∨ k = 2 ∨ k = 3 ∨ k = 4 ∨ k = 11 ∨ k = 12 ∨ k = 13 ∨ k = 14 ∨ k = 15 ∨ k = 16 ∨ k = 17 ∨ k = 18 ∨ k = 19 ∨ k = 20 ∨ k = 21 := by omega
    rcases hc with rfl | rfl | rfl | rfl | rfl | rfl | rfl | rfl | rfl | rfl | rfl | rfl | rfl | rfl | rfl | rfl <;> rfl

set_option maxHeartbeats 4000000 in
set_option maxRecDepth 100000 in
theorem pat_rule (x : Tr) : ∀ {F : Nat → Prop} {w : World}, Letters w → RuleSays F 57 Tr.pat w x := by
  induction x using Tr.ind with
  | h x ih =>
    intro F w0 hL0 w g o sv hW h hx
    have hL := hL0.under hW
    clear hL0 hW
    have cL := leaves_any w
    go_enter Tryz.func57, Tryz.ntmps57
    go_upto_region 2 with (first
      | (go_at_call 76; refine cL.mono ?_; rintro e w1 ⟨rfl, hb1⟩; have hn : (w1.alloc (.cells #[.nilFunc, .nilFunc, .nilFunc, .nilFunc, .nilFunc, .nilFunc, .nilFunc, .nilFunc, .nilFunc, .nilFunc, .nilFunc, .nilFunc, .nilFunc, .nilFunc, .nilFunc, .nilFunc, .nilFunc, .nilFunc, .nilFunc, .nilFunc, .nilFunc, .nilFunc] 106)).heap[w1.heap.size]? = some (.cells nil22 106 (0, 0)) := heap_new w1 (.cells #[.nilFunc, .nilFunc, .nilFunc, .nilFunc, .nilFunc, .nilFunc, .nilFunc, .nilFunc, .nilFunc, .nilFunc, .nilFunc, .nilFunc, .nilFunc, .nilFunc, .nilFunc, .nilFunc, .nilFunc, .nilFunc, .nilFunc, .nilFunc, .nilFunc, .nilFunc] 106); have hb2 := alloc_below w1 (.cells #[.nilFunc, .nilFunc, .nilFunc, .nilFunc, .nilFunc, .nilFunc, .nilFunc, .nilFunc, .nilFunc, .nilFunc, .nilFunc, .nilFunc, .nilFunc, .nilFunc, .nilFunc, .nilFunc, .nilFunc, .nilFunc, .nilFunc, .nilFunc, .nilFunc, .nilFunc] 106))
      | refine wpList_store_row rfl 106 _ _ rfl w1.heap.size leavesV (by kernel_rfl) (by kernel_rfl) 106 nil22 hn size22 (by kernel_rfl) (by kernel_rfl) ?_)
    have hr := setRow_heap' (cells := leavesV) hn
    have hB := below_setRow (cells := leavesV) hb2 (Nat.le_refl _)
    clear hn hb2 cL
    generalize (w1.alloc (.cells #[.nilFunc, .nilFunc, .nilFunc, .nilFunc, .nilFunc, .nilFunc, .nilFunc, .nilFunc, .nilFunc, .nilFunc, .nilFunc, .nilFunc, .nilFunc, .nilFunc, .nilFunc, .nilFunc, .nilFunc, .nilFunc, .nilFunc, .nilFunc, .nilFunc, .nilFunc] 106)).setRow w1.heap.size leavesV = w2 at hr hB ⊢
    have hB2 : Below w.heap.size w w2 := hb1.trans (hB.mono hb1.size)
    have cP := parts_any hr
    have h3 : ∀ W, Turn (· = w1.heap.size) w2 W → Below w.heap.size w W := fun W hT => hB2.trans (hT.below hB2.size fun k hk => by have := hb1.size; omega)
    have cA := fun (W : World) (hT : Turn (· = w1.heap.size) w2 W) (h1 : W.heap[w1.heap.size]? = some (.cells (partsV w2.heap.size) 106 (0, 0))) (h2 : W.cell? ⟨w2.heap.size, 0, none⟩ = some (.func (Fn.func 57) #[] #[])) =>
      asksPat_any (hL.under (h3 W hT)) (h.keep ((h3 W hT).block g h.lt)) (hx.below (h3 W hT)) h1 h2 fun y hy => ih y hy (hL.under (h3 W hT))
    clear hr hL h hx ih
    go_wp2_with (first
      | (go_at_call 77; refine cP.mono ?_; rintro e w3 ⟨rfl, hc3, hr3, hT3⟩; have cA3 := cA w3 hT3 hr3 hc3; have hB3 := h3 w3 hT3)
      | (go_at_call 78; refine cA3.mono ?_; rintro e w4 ⟨rfl, hb4⟩))
    go_ret
    exact ⟨rfl, hB3.trans (hb4.mono hB3.size)⟩
end Go.Proofs.YtjnmdbfijdnaiaaGreatDoor
