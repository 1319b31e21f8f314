/-
  pleachref10.fill, pleachref03.Atom. Conditions: the pattern lies as 'TrV' says, the names as 'Binds'.
-/
import Derived.Test.YtlhobpknflobgaaGreatDoorS22
import Derived.Test.YtlhobpknflobgaaGreatDoorS20
import Derived.Deep.AppendLies
namespace Go.Proofs.YtlhobpknflobgaaGreatDoor
open Go.RowKit


set_option maxHeartbeats 1000000 in
set_option maxRecDepth 100000 in
theorem ratom_any (w : World) (s : ByteArray) : Calls Tryz.prog 70 #[.string s] w fun e w' => e = .returned (.agg #[.int .i8 1, .int .i64 0, .string s, .string ⟨#[]⟩, .slice none 0 0]) ∧ Below w.heap.size w w' := by
  have hn : (w.alloc (.cells #[.int .i8 0, .int .i64 0, .string ⟨#[]⟩, .string ⟨#[]⟩, .slice none 0 0] 29)).heap[w.heap.size]? = some (.cells (cells5 zeroT (.slice none 0 0)) 29 (0, 0)) := heap_new w _
  have hb := alloc_below w (.cells #[.int .i8 0, .int .i64 0, .string ⟨#[]⟩, .string ⟨#[]⟩, .slice none 0 0] 29)
  go_enter Tryz.func70, Tryz.ntmps70
  go_upto_region 1 with fail
  generalize w.alloc (.cells #[.int .i8 0, .int .i64 0, .string ⟨#[]⟩, .string ⟨#[]⟩, .slice none 0 0] 29) = w1 at hn hb ⊢
  have hr := setRow_heap' (cells := cells5 (.mk 1 0 s ⟨#[]⟩ []) (.slice none 0 0)) hn
  have hB := below_setRow (cells := cells5 (.mk 1 0 s ⟨#[]⟩ []) (.slice none 0 0)) hb (Nat.le_refl _)
  go_wp2_with (refine wpList_store_row rfl 29 _ _ rfl w.heap.size (cells5 (.mk 1 0 s ⟨#[]⟩ []) (.slice none 0 0)) (by kernel_rfl) (by kernel_rfl) 29 (cells5 zeroT (.slice none 0 0)) hn (size28 _ _) (by kernel_rfl) (by kernel_rfl) ?_)
  refine bodyPost_ret (v := .agg (cells5 (.mk 1 0 s ⟨#[]⟩ []) (.slice none 0 0))) (results_cell_row Tryz.results70 _ _ w.heap.size 29 (cells5 (.mk 1 0 s ⟨#[]⟩ []) (.slice none 0 0)) (0, 0) _ rfl hr Tryz.underlying29 rfl (size28 _ _)) rfl ⟨rfl, hB⟩

def RFilPost (F : Nat → Prop) (y : Tr) (w : World) (e : Ending) (w' : World) : Prop :=
  ∃ (yv : Value), e = .returned (.agg #[.int .i8 y.k, .int .i64 y.n, .string y.s, .string y.t, yv]) ∧ TrV F w' y yv ∧ Below w.heap.size w w'
def kindR (k : Int) : Int := if k = 9 then 7 else 5
/-- What the round knows; b: the term's own block. -/
def RfRel (F : Nat → Prop) (p : Tr) (l : List Bd) (S b : Nat) (w7 : World) (i : Value) (wr : World) : Prop :=
  ∃ k : Nat, k ≤ p.l.length ∧ i = .int .i64 k ∧ ∃ (sv : Value) (L : List (Tr × Value)), wr.heap[b]? = some (.cells #[.int .i8 (kindR p.k), .int .i64 0, .string ⟨#[]⟩, .string ⟨#[]⟩, sv] 29 (0, 0)) ∧
    TRow F S b 29 wr sv L ∧ Below b w7 wr ∧ L.map (·.1) = (p.l.take k).map (·.rfil l) ∧ L.length = k
theorem rf_wf (k : Int) (l : List Tr) : NodeWf (.mk (kindR k) 0 ⟨#[]⟩ ⟨#[]⟩ l) := wf_small _ _ _ _ _ (by unfold kindR; split <;> rfl) (by decide) (by decide) (by decide)
theorem five_set0 {w : World} {b : Nat} {v0 v1 v2 v3 v4 u : Value} {T : TypeId} (h : w.heap[b]? = some (.cells #[v0, v1, v2, v3, v4] T (0, 0))) : (w.setCell ⟨b, 0, none⟩ u).heap[b]? = some (.cells #[u, v1, v2, v3, v4] T (0, 0)) := by
  simp only [World.setCell, Array.getElem?_modify, if_true, h]; rfl

end Go.Proofs.YtlhobpknflobgaaGreatDoor
