/-
  The table of a pattern's rules: ast.leaves, parts. Conditions: as said.
-/
import Derived.Test.YtjnmdbfijdnaiaaGreatDoorAst11
import Derived.Laws.Tables
import Derived.Laws.Rows
namespace Go.Proofs.YtjnmdbfijdnaiaaGreatDoor
open Go.RowKit

def nil22 : Array Value := #[.nilFunc, .nilFunc, .nilFunc, .nilFunc, .nilFunc, .nilFunc, .nilFunc, .nilFunc, .nilFunc, .nilFunc, .nilFunc, .nilFunc, .nilFunc, .nilFunc, .nilFunc, .nilFunc, .nilFunc, .nilFunc, .nilFunc, .nilFunc, .nilFunc, .nilFunc]
def leavesV : Array Value := #[.nilFunc, .nilFunc, .nilFunc, .nilFunc, .nilFunc, .func (Fn.func 90) #[] #[], .func (Fn.func 93) #[] #[], .func (Fn.func 94) #[] #[], .func (Fn.func 96) #[] #[], .nilFunc, .nilFunc, .nilFunc, .nilFunc, .nilFunc, .nilFunc, .nilFunc, .nilFunc, .nilFunc, .nilFunc, .nilFunc, .nilFunc, .nilFunc]
theorem size22 : (Tryz.prog.info? 106).map (·.size) = some leavesV.size := by kernel_rfl

theorem setRow_heap' {w : World} {g : Nat} {old cells : Array Value} {t : TypeId} (h : w.heap[g]? = some (.cells old t (0, 0))) : (w.setRow g cells).heap[g]? = some (.cells cells t (0, 0)) := setRow_heap w g old cells t _ h
theorem below_setRow {B g : Nat} {a w : World} {cells : Array Value} (h : Below B a w) (hg : B ≤ g) : Below B a (w.setRow g cells) :=
  h.trans ⟨rfl, rfl, rfl, by simp [World.setRow], fun k hk => by simp [World.setRow, Array.getElem?_modify]; omega⟩

set_option maxHeartbeats 2000000 in
set_option maxRecDepth 100000 in
theorem leaves_any (w : World) :
    Calls Tryz.prog 76 #[] w fun e w' => e = .returned (.agg leavesV) ∧ Below w.heap.size w w' := by
  have hn : (w.alloc (.cells #[.nilFunc, .nilFunc, .nilFunc, .nilFunc, .nilFunc, .nilFunc, .nilFunc, .nilFunc, .nilFunc, .nilFunc, .nilFunc, .nilFunc, .nilFunc, .nilFunc, .nilFunc, .nilFunc, .nilFunc, .nilFunc, .nilFunc, .nilFunc, .nilFunc, .nilFunc] 106)).heap[w.heap.size]? = some (.cells nil22 106 (0, 0)) := heap_new w (.cells #[.nilFunc, .nilFunc, .nilFunc, .nilFunc, .nilFunc, .nilFunc, .nilFunc, .nilFunc, .nilFunc, .nilFunc, .nilFunc, .nilFunc, .nilFunc, .nilFunc, .nilFunc, .nilFunc, .nilFunc, .nilFunc, .nilFunc, .nilFunc, .nilFunc, .nilFunc] 106)
  have hb := alloc_below w (.cells #[.nilFunc, .nilFunc, .nilFunc, .nilFunc, .nilFunc, .nilFunc, .nilFunc, .nilFunc, .nilFunc, .nilFunc, .nilFunc, .nilFunc, .nilFunc, .nilFunc, .nilFunc, .nilFunc, .nilFunc, .nilFunc, .nilFunc, .nilFunc, .nilFunc, .nilFunc] 106)
  go_enter Tryz.func76, Tryz.ntmps76
  go_upto_region 1 with fail
  generalize w.alloc (.cells #[.nilFunc, .nilFunc, .nilFunc, .nilFunc, .nilFunc, .nilFunc, .nilFunc, .nilFunc, .nilFunc, .nilFunc, .nilFunc, .nilFunc, .nilFunc, .nilFunc, .nilFunc, .nilFunc, .nilFunc, .nilFunc, .nilFunc, .nilFunc, .nilFunc, .nilFunc] 106) = w1 at hn hb ⊢
  have hr := setRow_heap' (cells := leavesV) hn
  have hB := below_setRow (cells := leavesV) hb (Nat.le_refl _)
  go_wp2_with (first | (refine wpList_build rfl 106 _ rfl (by kernel_rfl) ?_) | refine wpList_store_row rfl 106 _ _ rfl w.heap.size leavesV (by kernel_rfl) (by kernel_rfl) 106 nil22 hn size22 (by kernel_rfl) (by kernel_rfl) ?_)
  refine bodyPost_ret (v := .agg leavesV) (results_cell_row Tryz.results76 _ _ w.heap.size 106 leavesV (0, 0) _ rfl hr Tryz.underlying106 rfl size22) rfl ⟨rfl, hB⟩

theorem arr_set {w : World} {b i : Nat} {A : Array Value} {u : Value} {T : TypeId} (h : w.heap[b]? = some (.cells A T (0, 0))) : (w.setCell ⟨b, i, none⟩ u).heap[b]? = some (.cells (A.modify i fun _ => u) T (0, 0)) := by
  simp only [World.setCell, Array.getElem?_modify, if_true, h]; rfl
theorem arr_cell {w : World} {b i : Nat} {A : Array Value} {T : TypeId} (h : w.heap[b]? = some (.cells A T (0, 0))) : w.cell? ⟨b, i, none⟩ = A[i]? := by simp [World.cell?, h]
theorem arr_free {w : World} {b i : Nat} {A : Array Value} {T : TypeId} (h : w.heap[b]? = some (.cells A T (0, 0))) : w.frozen? ⟨b, i, none⟩ = false := by simp [World.frozen?, h]

def partsV (bm : Nat) : Array Value := (leavesV.modify 10 fun _ => .func (Fn.func 97) #[] #[.pointer (some ⟨bm, 0, none⟩)]).modify 9 fun _ => .func (Fn.func 99) #[] #[.pointer (some ⟨bm, 0, none⟩)]
/-- What parts leaves. -/
def PartsSays (b : Nat) (w : World) (e : Ending) (w' : World) : Prop := e = .returned (.tuple #[]) ∧ w'.cell? ⟨w.heap.size, 0, none⟩ = some (.func (Fn.func 57) #[] #[]) ∧ w'.heap[b]? = some (.cells (partsV w.heap.size) 106 (0, 0)) ∧ Turn (· = b) w w'

set_option maxHeartbeats 2000000 in
set_option maxRecDepth 100000 in
theorem parts_any {w : World} {b : Nat} (h : w.heap[b]? = some (.cells leavesV 106 (0, 0))) :
    Calls Tryz.prog 77 #[.pointer (some ⟨b, 0, none⟩), .func (Fn.func 57) #[] #[]] w (PartsSays b w) := by
  have hlt : b < w.heap.size := (Array.getElem?_eq_some_iff.1 h).1
  have hb1 := alloc_below w (.cells #[.func (Fn.func 57) #[] #[]] 81)
  have hm1 := box_cell w (.func (Fn.func 57) #[] #[]) 81
  have h1 := (hb1.block b hlt).trans h
  go_enter Tryz.func77, Tryz.ntmps77
  go_upto_region 1 with fail
  generalize w.alloc (.cells #[.func (Fn.func 57) #[] #[]] 81) = w1 at hb1 hm1 h1 ⊢
  have c1 : w1.cell? ⟨b, 10, none⟩ = some .nilFunc := (arr_cell h1).trans rfl
  have f1 : w1.frozen? ⟨b, 10, none⟩ = false := arr_free h1
  have h2 := arr_set (i := 10) (u := .func (Fn.func 97) #[] #[.pointer (some ⟨w.heap.size, 0, none⟩)]) h1
  have c2 : (w1.setCell ⟨b, 10, none⟩ (.func (Fn.func 97) #[] #[.pointer (some ⟨w.heap.size, 0, none⟩)])).cell? ⟨b, 9, none⟩ = some .nilFunc := (arr_cell h2).trans rfl
  have f2 : (w1.setCell ⟨b, 10, none⟩ (.func (Fn.func 97) #[] #[.pointer (some ⟨w.heap.size, 0, none⟩)])).frozen? ⟨b, 9, none⟩ = false := arr_free h2
  have h3 := arr_set (i := 9) (u := .func (Fn.func 99) #[] #[.pointer (some ⟨w.heap.size, 0, none⟩)]) h2
  have ht2 := Turn.setCell w1 ⟨b, 10, none⟩ (.func (Fn.func 97) #[] #[.pointer (some ⟨w.heap.size, 0, none⟩)])
  have ht3 := ht2.trans (Turn.setCell _ ⟨b, 9, none⟩ (.func (Fn.func 99) #[] #[.pointer (some ⟨w.heap.size, 0, none⟩)]))
  have hm3 := ht3.cell hm1 (show ¬ w.heap.size = b by omega)
  have hT : Turn (· = b) w _ := (Turn.of_below hb1).trans ht3
  have hfin : PartsSays b w (.returned (.tuple #[])) _ := ⟨rfl, hm3, h3, hT⟩
  have HF := Lib.hid hfin
  clear hfin h3 hm3 hT ht3 ht2 h2 h1 hm1 hb1 h
  go_wp2
  go_end0
  exact HF.out
end Go.Proofs.YtjnmdbfijdnaiaaGreatDoor
