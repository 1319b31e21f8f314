/-
  ast.asks at the table of guard expressions, whole; ast.guarded. Conditions: the tree lies as 'TrV' says, the letters as 'Letters' says.
-/
import Derived.Test.YtlhobpknflobgaaGreatDoorGd2
namespace Go.Proofs.YtlhobpknflobgaaGreatDoor
open Go.RowKit

/-- What a guard expression asks of a node with parts. -/
def grdO (x : Tr) : Bool := ((x.k == 10 || (x.k == 9 && (x.l.length : Int) == 2)) && bareB x false false false true) || (x.k == 11 && (bareB x false true false true && (arS x.s && (x.l.length : Int) == 2)))
/-- May a tree be a guard expression (its size is not looked at)? -/
def Tr.grd : Tr → Bool
  | .mk k n s t l => leafB (.mk k n s t l) || (grdO (.mk k n s t l) && grdl l)
where grdl : List Tr → Bool
  | [] => true
  | x :: r => x.grd && grdl r
theorem grd_eq (x : Tr) : x.grd = (leafB x || (grdO x && Tr.grd.grdl x.l)) := by cases x; rfl
theorem grdl_all : ∀ l : List Tr, Tr.grd.grdl l = l.all Tr.grd
  | [] => rfl
  | x :: r => by rw [Tr.grd.grdl, grdl_all r, List.all_cons]
def grdV (bm b1 b2 : Nat) : Array Value := (partsVG bm).modify 11 fun _ => .func (Fn.func 172) #[] #[.pointer (some ⟨b1, 0, none⟩), .pointer (some ⟨b2, 0, none⟩)]

theorem asksGrd_any {F : Nat → Prop} {w : World} {b g o bm b1 b2 : Nat} {x : Tr} {sv : Value} (hL : Letters w) (h : NodeAt w g o x sv) (hx : TrV F w x sv) (hb : w.heap[b]? = some (.cells (grdV bm b1 b2) 144 (0, 0)))
    (hm : w.cell? ⟨bm, 0, none⟩ = some (.func (Fn.func 104) #[] #[])) (hm1 : w.cell? ⟨b1, 0, none⟩ = some (.func (Fn.func 150) #[] #[])) (hm2 : w.cell? ⟨b2, 0, none⟩ = some (.func (Fn.func 104) #[] #[])) (hf : ∀ y ∈ x.l, RuleSays F 104 Tr.grd w y) :
    Calls Tryz.prog 145 #[.pointer (some ⟨b, 0, none⟩), .pointer (some ⟨g, o, none⟩)] w fun e w' => e = .returned (.bool x.grd) ∧ Below w.heap.size w w' := by
  have hwf := hx.wf
  have hk8 : ∀ W, Below w.heap.size w W → NodeAt W g o x sv := fun W hW => h.keep (hW.block g h.lt)
  obtain ⟨p, c, rfl⟩ := hx.kids.slice
  by_cases h5 : x.k = 5
  · have e : x.grd = (bareB x false true false false && nameA x.s) := by rw [grd_eq]; simp [leafB, grdO, h5]
    rw [e]
    exact asks5_any h h5 ((arr_cell hb).trans rfl) fun W hW => lf1_any (hk8 W hW) hwf
  by_cases h6 : x.k = 6
  · have e : x.grd = (bareB x true false false false && mayI x.n) := by rw [grd_eq]; simp [leafB, grdO, h6]
    rw [e]
    exact asks6_any h h6 ((arr_cell hb).trans rfl) fun W hW => lf2_any (hk8 W hW)
  by_cases h7 : x.k = 7
  · have e : x.grd = (bareB x false true false false && atomN x.s) := by rw [grd_eq]; simp [leafB, grdO, h7]
    rw [e]
    exact asks7_any h h7 ((arr_cell hb).trans rfl) fun W hW => lf3_any (hL.under hW) (hk8 W hW) hwf
  by_cases h8 : x.k = 8
  · have e : x.grd = bareB x false false false false := by rw [grd_eq]; simp [leafB, grdO, h8]
    rw [e]
    exact asks8_any h h8 ((arr_cell hb).trans rfl) fun W hW => lf4_any (hk8 W hW)
  have hmk : ∀ W, Below w.heap.size w W → W.cell? ⟨bm, 0, none⟩ = some (.func (Fn.func 104) #[] #[]) := fun W hW => (hW.cell (p := ⟨bm, 0, none⟩) (cell_block hm)).trans hm
  by_cases h10 : x.k = 10
  · have e : x.grd = (bareB x false false false true && x.l.all Tr.grd) := by rw [grd_eq, grdl_all]; simp [leafB, grdO, h10]
    rw [e]
    exact asks10_any h h10 ((arr_cell hb).trans rfl) fun W hW => pt1G_any (hk8 W hW) (hx.below hW) (hmk W hW) fun y hy => (hf y hy).under hW
  by_cases h9 : x.k = 9
  · have e : x.grd = (bareB x false false false true && ((x.l.length : Int) == 2 && x.l.all Tr.grd)) := by
      rw [grd_eq, grdl_all]; simp [leafB, grdO, h9]
      cases bareB x false false false true <;> simp
    rw [e]
    exact asks9_any h h9 ((arr_cell hb).trans rfl) fun W hW => pt2G_any (hk8 W hW) (hx.below hW) (hmk W hW) fun y hy => (hf y hy).under hW
  by_cases h11 : x.k = 11
  · have e : x.grd = (bareB x false true false true && (arS x.s && ((x.l.length : Int) == 2 && x.l.all Tr.grd))) := by
      rw [grd_eq, grdl_all]; simp [leafB, grdO, h11]
      cases bareB x false true false true <;> cases arS x.s <;> simp
    rw [e]
    exact asks11_any h h11 ((arr_cell hb).trans rfl) fun W hW => op1G_any (hk8 W hW) (hx.below hW) ((hW.cell (p := ⟨b1, 0, none⟩) (cell_block hm1)).trans hm1) ((hW.cell (p := ⟨b2, 0, none⟩) (cell_block hm2)).trans hm2) fun y hy => (hf y hy).under hW
  have e : x.grd = false := by
    rw [grd_eq]; simp [leafB, grdO, h5, h6, h7, h8, h9, h10, h11]
  rw [e]
  by_cases hr : x.k < 0 ∨ 22 ≤ x.k
  · exact asksOut_any h hr hwf
  · refine asksNil_any h (by omega) (by omega) ((arr_cell hb).trans ?_)
    obtain ⟨k, hk⟩ : ∃ k : Nat, x.k = (k : Int) := ⟨x.k.toNat, by omega⟩
    rw [hk] at h5 h6 h7 h8 h9 h10 h11 hr ⊢
    rw [Int.toNat_natCast]
    have : k < 22 := by omega
    have hc : k = 0 ∨ k = 1 ∨ k = 2 ∨ k = 3 ∨ k = 4 ∨ k = 12 ∨ k = 13 ∨ k = 14 ∨ k = 15 ∨ k = 16 ∨ k = 17 ∨ k = 18 ∨ k = 19 ∨ k = 20 ∨ k = 21 := by omega
    rcases hc with rfl | rfl | rfl | rfl | rfl | rfl | rfl | rfl | rfl | rfl | rfl | rfl | rfl | rfl | rfl <;> rfl

set_option maxHeartbeats 4000000 in
set_option maxRecDepth 100000 in
theorem grd_rule (x : Tr) : ∀ {F : Nat → Prop} {w : World}, Letters w → RuleSays F 104 Tr.grd w x := by
  induction x using Tr.ind with
  | h x ih =>
    intro F w0 hL0 w g o sv hW h hx
    have hL := hL0.under hW
    clear hL0 hW
    have cL := leaves_any w
    go_enter Tryz.func104, Tryz.ntmps104
    go_upto_region 2 with (first
      | (go_at_call 148; refine cL.mono ?_; rintro e w1 ⟨rfl, hb1⟩; have hn : (w1.alloc (.cells #[.nilFunc, .nilFunc, .nilFunc, .nilFunc, .nilFunc, .nilFunc, .nilFunc, .nilFunc, .nilFunc, .nilFunc, .nilFunc, .nilFunc, .nilFunc, .nilFunc, .nilFunc, .nilFunc, .nilFunc, .nilFunc, .nilFunc, .nilFunc, .nilFunc, .nilFunc] 144)).heap[w1.heap.size]? = some (.cells nil22 144 (0, 0)) := heap_new w1 (.cells #[.nilFunc, .nilFunc, .nilFunc, .nilFunc, .nilFunc, .nilFunc, .nilFunc, .nilFunc, .nilFunc, .nilFunc, .nilFunc, .nilFunc, .nilFunc, .nilFunc, .nilFunc, .nilFunc, .nilFunc, .nilFunc, .nilFunc, .nilFunc, .nilFunc, .nilFunc] 144); have hb2 := alloc_below w1 (.cells #[.nilFunc, .nilFunc, .nilFunc, .nilFunc, .nilFunc, .nilFunc, .nilFunc, .nilFunc, .nilFunc, .nilFunc, .nilFunc, .nilFunc, .nilFunc, .nilFunc, .nilFunc, .nilFunc, .nilFunc, .nilFunc, .nilFunc, .nilFunc, .nilFunc, .nilFunc] 144))
      | refine wpList_store_row rfl 144 _ _ rfl w1.heap.size leavesV (by kernel_rfl) (by kernel_rfl) 144 nil22 hn size22 (by kernel_rfl) (by kernel_rfl) ?_)
    have hr := setRow_heap' (cells := leavesV) hn
    have hB := below_setRow (cells := leavesV) hb2 (Nat.le_refl _)
    clear hn hb2 cL
    generalize (w1.alloc (.cells #[.nilFunc, .nilFunc, .nilFunc, .nilFunc, .nilFunc, .nilFunc, .nilFunc, .nilFunc, .nilFunc, .nilFunc, .nilFunc, .nilFunc, .nilFunc, .nilFunc, .nilFunc, .nilFunc, .nilFunc, .nilFunc, .nilFunc, .nilFunc, .nilFunc, .nilFunc] 144)).setRow w1.heap.size leavesV = w2 at hr hB ⊢
    have hB2 : Below w.heap.size w w2 := hb1.trans (hB.mono hb1.size)
    have cP := partsG_any hr
    have h3 : ∀ W, Turn (· = w1.heap.size) w2 W → Below w.heap.size w W := fun W hT => hB2.trans (hT.below hB2.size fun k hk => by have := hb1.size; omega)
    have cO := fun (W : World) => opG_any W
    have hz2 : w1.heap.size < w2.heap.size := (Array.getElem?_eq_some_iff.1 hr).1
    have cA := fun (W : World) (b1 b2 : Nat) (hT : Turn (· = w1.heap.size) w2 W) (h1 : W.heap[w1.heap.size]? = some (.cells (grdV w2.heap.size b1 b2) 144 (0, 0))) (h2 : W.cell? ⟨w2.heap.size, 0, none⟩ = some (.func (Fn.func 104) #[] #[])) (k1 : W.cell? ⟨b1, 0, none⟩ = some (.func (Fn.func 150) #[] #[])) (k2 : W.cell? ⟨b2, 0, none⟩ = some (.func (Fn.func 104) #[] #[])) =>
      asksGrd_any (hL.under (h3 W hT)) (h.keep ((h3 W hT).block g h.lt)) (hx.below (h3 W hT)) h1 h2 k1 k2 fun y hy => ih y hy (hL.under (h3 W hT))
    have HA := Lib.hid cA
    clear hr hL h hx ih cA
    go_upto_region 3 with (first
      | (go_at_call 149; refine cP.mono ?_; rintro e w3 ⟨rfl, hc3, hr3, hT3⟩))
    have hz3 : w1.heap.size < w3.heap.size := (Array.getElem?_eq_some_iff.1 hr3).1
    have hzb : ¬ w3.heap.size = w1.heap.size := by omega
    have hzb2 : ¬ w3.heap.size + 1 = w1.heap.size := by omega
    have hzb3 : ¬ w2.heap.size = w1.heap.size := by omega
    go_upto_region 4 with (go_at_call 139; refine (cO _).mono ?_; rintro e w4 ⟨rfl, k1, k2, hb4⟩; have hr4 := (hb4.block _ hz3).trans hr3; have c11 : w4.cell? ⟨w1.heap.size, 11, none⟩ = some .nilFunc := (arr_cell hr4).trans rfl; have f11 : w4.frozen? ⟨w1.heap.size, 11, none⟩ = false := arr_free hr4)
    have hr5 := arr_set (i := 11) (u := .func (Fn.func 172) #[] #[.pointer (some ⟨w3.heap.size, 0, none⟩), .pointer (some ⟨w3.heap.size + 1, 0, none⟩)]) hr4
    have hT5 := Turn.setCell w4 ⟨w1.heap.size, 11, none⟩ (.func (Fn.func 172) #[] #[.pointer (some ⟨w3.heap.size, 0, none⟩), .pointer (some ⟨w3.heap.size + 1, 0, none⟩)])
    have hc4 := (hb4.cell (p := ⟨w2.heap.size, 0, none⟩) (cell_block hc3)).trans hc3
    have hc5 := hT5.cell hc4 hzb3
    have k15 := hT5.cell k1 hzb
    have k25 := hT5.cell k2 hzb2
    have hTT := (hT3.trans (Turn.of_below hb4)).trans hT5
    have cA5 := HA.out _ _ _ hTT hr5 hc5 k15 k25
    have hB5 := h3 _ hTT
    clear hr4 c11 f11 hr5 hT5 hc4 hc5 k15 k25 hTT hr3 hc3 k1 k2
    go_wp2_with (go_at_call 145; refine cA5.mono ?_; rintro e w6 ⟨rfl, hb6⟩)
    go_ret
    exact ⟨rfl, hB5.trans (hb6.mono hB5.size)⟩
end Go.Proofs.YtlhobpknflobgaaGreatDoor
