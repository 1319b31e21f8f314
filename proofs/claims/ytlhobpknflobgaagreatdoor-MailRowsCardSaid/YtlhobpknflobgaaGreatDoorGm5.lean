/-
  pleachlaw17.item, takes. Conditions: the pattern lies as 'TrV' says.
-/
import Derived.Test.YtlhobpknflobgaaGreatDoorGm4
import Derived.Test.YtlhobpknflobgaaGreatDoorS23
namespace Go.Proofs.YtlhobpknflobgaaGreatDoor
open Go.RowKit

/-- An atom. -/
def aT (s : ByteArray) : Tr := .mk 1 0 s ⟨#[]⟩ []
set_option maxHeartbeats 1000000 in
set_option maxRecDepth 100000 in
theorem item_any (w : World) (s : ByteArray) : Calls Tryz.prog 72 #[.string s] w fun e w' => e = .returned (.agg #[.int .i8 1, .int .i64 0, .string s, .string ⟨#[]⟩, .slice none 0 0, .bool false]) ∧ Below w.heap.size w w' := by
  have hn : (w.alloc (.cells (cells6 zeroI (.slice none 0 0)) 65)).heap[w.heap.size]? = some (.cells (cells6 zeroI (.slice none 0 0)) 65 (0, 0)) := heap_new w _
  have hb := alloc_below w (.cells (cells6 zeroI (.slice none 0 0)) 65)
  go_enter Tryz.func72, Tryz.ntmps72
  go_upto_region 1 with fail
  change Code.wp _ _ _ _ (w.alloc (.cells (cells6 zeroI (.slice none 0 0)) 65))
  generalize w.alloc (.cells (cells6 zeroI (.slice none 0 0)) 65) = w1 at hn hb ⊢
  have hlt := (six_facts hn).1
  go_wp2_with (first
    | (go_at_call 70; refine (ratom_any _ s).mono ?_; rintro e w5 ⟨rfl, hb5⟩
       have hn5 := (hb5.block _ hlt).trans hn
       have hr := setRow_heap' (cells := cells6 ⟨aT s, false⟩ (.slice none 0 0)) hn5
       have hB := below_setRow (cells := cells6 ⟨aT s, false⟩ (.slice none 0 0)) (hb.trans (hb5.mono hb.size)) (Nat.le_refl _))
    | (refine wpList_store_row rfl 65 _ _ rfl w.heap.size (cells6 ⟨aT s, false⟩ (.slice none 0 0)) (by kernel_rfl) (by kernel_rfl) 65 (cells6 zeroI (.slice none 0 0)) hn5 (size69 _ _) (by kernel_rfl) (by kernel_rfl) ?_))
  refine bodyPost_ret (v := .agg (cells6 ⟨aT s, false⟩ (.slice none 0 0))) (results_cell_row Tryz.results72 _ _ w.heap.size 65 (cells6 ⟨aT s, false⟩ (.slice none 0 0)) (0, 0) _ rfl hr Tryz.underlying65 rfl (size69 _ _)) rfl ⟨rfl, hB⟩

def nilN : Tr := .mk 8 0 ⟨#[]⟩ ⟨#[]⟩ []
/-- A clause of one pattern, no tests. -/
def clT (p : Tr) : Tr := .mk 3 1 ⟨#[]⟩ ⟨#[]⟩ [p, eG, nilN]
/-- Three trees one behind the other, as cells. -/
def cells15 (p : Tr) (pv : Value) : Array Value := #[.int .i8 p.k, .int .i64 p.n, .string p.s, .string p.t, pv, .int .i8 4, .int .i64 0, .string ⟨#[]⟩, .string ⟨#[]⟩, .slice none 0 0, .int .i8 8, .int .i64 0, .string ⟨#[]⟩, .string ⟨#[]⟩, .slice none 0 0]
theorem kids_three {F : Nat → Prop} {w : World} {g : Nat} {x y z : Tr} {sv tv uv : Value} (hx : NodeAt w g 0 x sv) (hy : NodeAt w g 5 y tv) (hz : NodeAt w g 10 z uv) (hxv : TrV F w x sv) (hyv : TrV F w y tv) (hzv : TrV F w z uv) (hg : F g) : Kids F w (.slice (some ⟨g, 0, none⟩) 3 3) [x, y, z] :=
  .mk _ 3 [x, y, z] (fun i => if i = 0 then sv else if i = 1 then tv else uv) (Nat.le_refl _) (by simp [BL])
    (fun i hi => match i, hi with | 0, _ => hxv.wf | 1, _ => hyv.wf | 2, _ => hzv.wf)
    (fun i hi => match i, hi with | 0, _ => ⟨g, 0, rfl, hg, hx⟩ | 1, _ => ⟨g, 0, rfl, hg, hy⟩ | 2, _ => ⟨g, 0, rfl, hg, hz⟩)
    (fun i hi => match i, hi with | 0, _ => hxv.kids | 1, _ => hyv.kids | 2, _ => hzv.kids)
theorem clT_lies {w : World} {g : Nat} {p : Tr} {pv : Value} (h : w.heap[g]? = some (.cells (cells15 p pv) 25 (0, 0))) (hp : TrV (fun _ => True) w p pv) : TrV (fun _ => True) w (clT p) (.slice (some ⟨g, 0, none⟩) 3 3) := by
  have hc : ∀ o u, (cells15 p pv)[o]? = some u → w.cell? ⟨g, o, none⟩ = some u := fun o u hu => (arr_cell h).trans hu
  exact ⟨wf_small _ _ _ _ _ (by decide) (by decide) (by decide) (by decide), kids_three (F := fun _ => True) (x := p) (y := eG) (z := nilN) ⟨hc 0 _ rfl, hc 1 _ rfl, hc 2 _ rfl, hc 3 _ rfl, hc 4 _ rfl⟩ ⟨hc 5 _ rfl, hc 6 _ rfl, hc 7 _ rfl, hc 8 _ rfl, hc 9 _ rfl⟩ ⟨hc 10 _ rfl, hc 11 _ rfl, hc 12 _ rfl, hc 13 _ rfl, hc 14 _ rfl⟩ hp
    ⟨wf_small _ _ _ _ _ (by decide) (by decide) (by decide) (by decide), Kids.nil _ _⟩ ⟨wf_small _ _ _ _ _ (by decide) (by decide) (by decide) (by decide), Kids.nil _ _⟩ trivial⟩

set_option maxHeartbeats 2000000 in
set_option maxRecDepth 100000 in
theorem takes_any {F : Nat → Prop} {w : World} {p : Tr} {pv : Value} (hp : TrV F w p pv) : Calls Tryz.prog 73 #[.agg #[.int .i8 p.k, .int .i64 p.n, .string p.s, .string p.t, pv]] w fun e w' => ∃ sv, e = .returned (.agg #[.int .i8 3, .int .i64 1, .string ⟨#[]⟩, .string ⟨#[]⟩, sv]) ∧ TrV (fun _ => True) w' (clT p) sv ∧ Below w.heap.size w w' := by
  obtain ⟨p1, c1, rfl⟩ := hp.kids.slice
  obtain ⟨n1, n2, hb1, hz1⟩ := two_new w (.cells #[.int .i8 p.k, .int .i64 p.n, .string p.s, .string p.t, .slice p1 p.l.length c1] 25) (.cells (cells5 zeroT (.slice none 0 0)) 25)
  have hp0 : TrV (fun g => g < w.heap.size) w p (.slice p1 p.l.length c1) := ⟨hp.wf, hp.kids.mono fun _ _ h => h⟩
  obtain ⟨a0, a1, a2, a3, a4⟩ := node_heap n1
  simp only [Nat.zero_add] at a1 a2 a3 a4
  go_enter Tryz.func73, Tryz.ntmps73
  go_upto_region 1 with fail
  change Code.wp _ _ _ _ ((w.alloc (.cells #[.int .i8 p.k, .int .i64 p.n, .string p.s, .string p.t, .slice p1 p.l.length c1] 25)).alloc (.cells (cells5 zeroT (.slice none 0 0)) 25))
  generalize (w.alloc (.cells #[.int .i8 p.k, .int .i64 p.n, .string p.s, .string p.t, .slice p1 p.l.length c1] 25)).alloc (.cells (cells5 zeroT (.slice none 0 0)) 25) = w1 at n1 n2 hb1 hz1 a0 a1 a2 a3 a4 ⊢
  have hb7 := alloc_below w1 (.cells (cells15 p (.slice p1 p.l.length c1)) 25)
  have hg7 := heap_new w1 (.cells (cells15 p (.slice p1 p.l.length c1)) 25)
  have hn7 := (hb7.block (w.heap.size + 1) (by omega)).trans n2
  have hr := setRow_heap' (cells := cells5 (clT p) (.slice (some ⟨w1.heap.size, 0, none⟩) 3 3)) hn7
  have hB := below_setRow (cells := cells5 (clT p) (.slice (some ⟨w1.heap.size, 0, none⟩) 3 3)) (hb1.trans (hb7.mono hb1.size)) (Nat.le_succ _)
  have hg8 := (setRow_other (X := w1.alloc (.cells (cells15 p (.slice p1 p.l.length c1)) 25)) (cells := cells5 (clT p) (.slice (some ⟨w1.heap.size, 0, none⟩) 3 3)) (show w1.heap.size ≠ w.heap.size + 1 by omega)).trans hg7
  have hp8 := hp0.below hB
  have hres := clT_lies hg8 ⟨hp8.wf, hp8.kids.mono fun _ _ _ => trivial⟩
  have HRES := Lib.hid hres
  have HR := Lib.hid hr
  clear n1 n2 hz1 hb7 hg7 hr hg8 hp8 hp0 hres hp
  go_wp2_with (refine wpList_store_row rfl 25 _ _ rfl (w.heap.size + 1) (cells5 (clT p) (.slice (some ⟨w1.heap.size, 0, none⟩) 3 3)) (by kernel_rfl) (by kernel_rfl) 25 (cells5 zeroT (.slice none 0 0)) hn7 (size25 _ _) (by kernel_rfl) (by kernel_rfl) ?_)
  exact bodyPost_ret (v := .agg (cells5 (clT p) (.slice (some ⟨w1.heap.size, 0, none⟩) 3 3))) (results_cell_row Tryz.results73 _ _ (w.heap.size + 1) 25 (cells5 (clT p) (.slice (some ⟨w1.heap.size, 0, none⟩) 3 3)) (0, 0) _ rfl HR.out Tryz.underlying25 rfl (size25 _ _)) rfl ⟨_, rfl, HRES.out, hB⟩
end Go.Proofs.YtlhobpknflobgaaGreatDoor
