/-
  signal.item, Exited, Down and pleachref22.limit, Exited, Down: the items that tell of an end. Conditions: the reason lies as 'TrV' says, the letters as 'Letters' says.
-/
import Derived.Test.YtgliogfggajfgaaGreatDoorSa3
import Derived.Deep.MidRow
import Derived.Deep.RegionHeld3
import Derived.Deep.DeepCutAuto
namespace Go.Proofs.YtgliogfggajfgaaGreatDoor
open Go.RowKit

/-- A store of a whole row at a step of a region that draws. -/
theorem step_store_row {P : Program} {ops : Array Oper} {o : Oper} {a : Act} {w : World} {K : Act → World → Prop} {Q : Exit → Act → World → Prop} {E : Prop} (hgd : o.guard = none) (ty : TypeId) (x y : Operand) (ho : o.op = .store ty x y)
    (g : Nat) (cells : Array Value) (hx : a.eval x = .pointer (some ⟨g, 0, none⟩)) (hy : a.eval y = .agg cells)
    (t : TypeId) (old : Array Value) (hg : w.heap[g]? = some (.cells old t (0, 0))) (hi : (P.info? ty).map (·.size) = some cells.size)
    (hold : old.size = cells.size) (h1 : cells.all (·.oneCell') = true)
    (h : K (a.put o.dst undef) (w.setRow g cells)) : if Region.wanted o (yielded ops a.tmps) = true then Oper.wp P o a w K Q else E := by
  have hw : Region.wanted o (yielded ops a.tmps) = true := by simp [Region.wanted, hgd]
  rw [if_pos hw]
  exact wp_store_row ty x y ho g cells hx hy t old hg hi hold h1 h
def aT (s : ByteArray) : Tr := .mk 1 0 s ⟨#[]⟩ []
def nT (k n : Int) : Tr := .mk k n ⟨#[]⟩ ⟨#[]⟩ []
/-- A number brought into those of pids and references. -/
def clN (n : Int) : Int := if 576460752303423487 < (if n < 0 then 0 else n) then 576460752303423487 else if n < 0 then 0 else n
theorem clN_wf (n : Int) : (Lit.int .i64 (clN n)).wf = true := by
  have h1 : IntKind.i64.min = -9223372036854775808 := by decide
  have h2 : IntKind.i64.max = 9223372036854775807 := by decide
  simp only [Lit.wf, h1, h2, Bool.and_eq_true, decide_eq_true_eq, clN]
  omega
def slT : Tr := aT ⟨#[115, 121, 115, 116, 101, 109, 95, 108, 105, 109, 105, 116]⟩
/-- The tuple of the parts; with system_limit in the last one's place if that may not be. -/
def limS (l : List Tr) (x : Tr) : Tr := if (madeS 5 (l ++ [x])).2 = 0 then (madeS 5 (l ++ [x])).1 else (madeS 5 (l ++ [slT])).1
def exS (n : Int) (x : Tr) : Tr := limS [aT ⟨#[101, 120, 105, 116, 101, 100]⟩, nT 4 (clN n)] x
def dnS (m n : Int) (x : Tr) : Tr := limS [aT ⟨#[100, 111, 119, 110]⟩, nT 2 (clN m), nT 4 (clN n)] x
theorem aT_lies {F : Nat → Prop} {w : World} {s : ByteArray} (h : s.size ≤ 64) : TrV F w (aT s) (.slice none 0 0) := ⟨wf_small _ _ _ _ _ (by decide) (by decide) h (by decide), Kids.nil _ _⟩
theorem nT_lies {F : Nat → Prop} {w : World} {k n : Int} (hk : (Lit.int .i8 k).wf = true) : TrV F w (nT k (clN n)) (.slice none 0 0) := ⟨wf_small _ _ _ _ _ hk (clN_wf n) (by decide) (by decide), Kids.nil _ _⟩
def row15 (a b c : Tr) (va vb vc : Value) : Array Value := #[.int .i8 a.k, .int .i64 a.n, .string a.s, .string a.t, va, .int .i8 b.k, .int .i64 b.n, .string b.s, .string b.t, vb, .int .i8 c.k, .int .i64 c.n, .string c.s, .string c.t, vc]
def row20 (a b c d : Tr) (va vb vc vd : Value) : Array Value := #[.int .i8 a.k, .int .i64 a.n, .string a.s, .string a.t, va, .int .i8 b.k, .int .i64 b.n, .string b.s, .string b.t, vb, .int .i8 c.k, .int .i64 c.n, .string c.s, .string c.t, vc, .int .i8 d.k, .int .i64 d.n, .string d.s, .string d.t, vd]
theorem kids_15 {F : Nat → Prop} {w : World} {g : Nat} {t : TypeId} {a b c : Tr} {va vb vc : Value} (h : w.heap[g]? = some (.cells (row15 a b c va vb vc) t (0, 0))) (ha : TrV F w a va) (hb : TrV F w b vb) (hc : TrV F w c vc) (hg : F g) : Kids F w (.slice (some ⟨g, 0, none⟩) 3 3) [a, b, c] := by
  have q : ∀ o u, (row15 a b c va vb vc)[o]? = some u → w.cell? ⟨g, o, none⟩ = some u := fun o u hu => (arr_cell h).trans hu
  have n1 : NodeAt w g 0 a va := ⟨q 0 _ rfl, q 1 _ rfl, q 2 _ rfl, q 3 _ rfl, q 4 _ rfl⟩
  have n2 : NodeAt w g 5 b vb := ⟨q 5 _ rfl, q 6 _ rfl, q 7 _ rfl, q 8 _ rfl, q 9 _ rfl⟩
  have n3 : NodeAt w g 10 c vc := ⟨q 10 _ rfl, q 11 _ rfl, q 12 _ rfl, q 13 _ rfl, q 14 _ rfl⟩
  exact .mk _ 3 [a, b, c] (fun i => if i = 0 then va else if i = 1 then vb else vc) (Nat.le_refl _) (by simp [BL])
    (fun i hi => match i, hi with | 0, _ => ha.wf | 1, _ => hb.wf | 2, _ => hc.wf)
    (fun i hi => match i, hi with | 0, _ => ⟨g, 0, rfl, hg, n1⟩ | 1, _ => ⟨g, 0, rfl, hg, n2⟩ | 2, _ => ⟨g, 0, rfl, hg, n3⟩)
    (fun i hi => match i, hi with | 0, _ => ha.kids | 1, _ => hb.kids | 2, _ => hc.kids)
theorem kids_20 {F : Nat → Prop} {w : World} {g : Nat} {t : TypeId} {a b c d : Tr} {va vb vc vd : Value} (h : w.heap[g]? = some (.cells (row20 a b c d va vb vc vd) t (0, 0))) (ha : TrV F w a va) (hb : TrV F w b vb) (hc : TrV F w c vc) (hd : TrV F w d vd) (hg : F g) : Kids F w (.slice (some ⟨g, 0, none⟩) 4 4) [a, b, c, d] := by
  have q : ∀ o u, (row20 a b c d va vb vc vd)[o]? = some u → w.cell? ⟨g, o, none⟩ = some u := fun o u hu => (arr_cell h).trans hu
  have n1 : NodeAt w g 0 a va := ⟨q 0 _ rfl, q 1 _ rfl, q 2 _ rfl, q 3 _ rfl, q 4 _ rfl⟩
  have n2 : NodeAt w g 5 b vb := ⟨q 5 _ rfl, q 6 _ rfl, q 7 _ rfl, q 8 _ rfl, q 9 _ rfl⟩
  have n3 : NodeAt w g 10 c vc := ⟨q 10 _ rfl, q 11 _ rfl, q 12 _ rfl, q 13 _ rfl, q 14 _ rfl⟩
  have n4 : NodeAt w g 15 d vd := ⟨q 15 _ rfl, q 16 _ rfl, q 17 _ rfl, q 18 _ rfl, q 19 _ rfl⟩
  exact .mk _ 4 [a, b, c, d] (fun i => if i = 0 then va else if i = 1 then vb else if i = 2 then vc else vd) (Nat.le_refl _) (by simp [BL])
    (fun i hi => match i, hi with | 0, _ => ha.wf | 1, _ => hb.wf | 2, _ => hc.wf | 3, _ => hd.wf)
    (fun i hi => match i, hi with | 0, _ => ⟨g, 0, rfl, hg, n1⟩ | 1, _ => ⟨g, 0, rfl, hg, n2⟩ | 2, _ => ⟨g, 0, rfl, hg, n3⟩ | 3, _ => ⟨g, 0, rfl, hg, n4⟩)
    (fun i hi => match i, hi with | 0, _ => ha.kids | 1, _ => hb.kids | 2, _ => hc.kids | 3, _ => hd.kids)
theorem set15 {w : World} {g : Nat} {t : TypeId} {a b c y : Tr} {va vb vc yv : Value} (h : w.heap[g]? = some (.cells (row15 a b c va vb vc) t (0, 0))) : (w.setCells g 10 (cells5 y yv).toList).heap[g]? = some (.cells (row15 a b y va vb yv) t (0, 0)) :=
  (arr_set (i := 14) (arr_set (i := 13) (arr_set (i := 12) (arr_set (i := 11) (arr_set (i := 10) h))))).trans rfl
theorem set20 {w : World} {g : Nat} {t : TypeId} {a b c d y : Tr} {va vb vc vd yv : Value} (h : w.heap[g]? = some (.cells (row20 a b c d va vb vc vd) t (0, 0))) : (w.setCells g 15 (cells5 y yv).toList).heap[g]? = some (.cells (row20 a b c y va vb vc yv) t (0, 0)) :=
  (arr_set (i := 19) (arr_set (i := 18) (arr_set (i := 17) (arr_set (i := 16) (arr_set (i := 15) h))))).trans rfl
/-- An item of ours. -/
def cells6 (x : Tr) (o : Bool) (sv : Value) : Array Value := #[.int .i8 x.k, .int .i64 x.n, .string x.s, .string x.t, sv, .bool o]
theorem size69 (x : Tr) (o : Bool) (sv : Value) : (Tryz.prog.info? 29).map (·.size) = some (cells6 x o sv).size := by kernel_rfl

set_option maxHeartbeats 1000000 in
set_option maxRecDepth 100000 in
theorem satom_any (w : World) (s : ByteArray) : Calls Tryz.prog 25 #[.string s] w fun e w' => e = .returned (.agg #[.int .i8 1, .int .i64 0, .string s, .string ⟨#[]⟩, .slice none 0 0]) ∧ Below w.heap.size w w' := by
  have hn : (w.alloc (.cells #[.int .i8 0, .int .i64 0, .string ⟨#[]⟩, .string ⟨#[]⟩, .slice none 0 0] 25)).heap[w.heap.size]? = some (.cells (cells5 zeroT (.slice none 0 0)) 25 (0, 0)) := heap_new w _
  have hb := alloc_below w (.cells #[.int .i8 0, .int .i64 0, .string ⟨#[]⟩, .string ⟨#[]⟩, .slice none 0 0] 25)
  go_enter Tryz.func25, Tryz.ntmps25
  go_upto_region 1 with fail
  generalize w.alloc (.cells #[.int .i8 0, .int .i64 0, .string ⟨#[]⟩, .string ⟨#[]⟩, .slice none 0 0] 25) = w1 at hn hb ⊢
  have hr := setRow_heap' (cells := cells5 (aT s) (.slice none 0 0)) hn
  have hB := below_setRow (cells := cells5 (aT s) (.slice none 0 0)) hb (Nat.le_refl _)
  go_wp2_with (refine wpList_store_row rfl 25 _ _ rfl w.heap.size (cells5 (aT s) (.slice none 0 0)) (by kernel_rfl) (by kernel_rfl) 25 (cells5 zeroT (.slice none 0 0)) hn (size28 _ _) (by kernel_rfl) (by kernel_rfl) ?_)
  refine bodyPost_ret (v := .agg (cells5 (aT s) (.slice none 0 0))) (results_cell_row Tryz.results25 _ _ w.heap.size 25 (cells5 (aT s) (.slice none 0 0)) (0, 0) _ rfl hr Tryz.underlying25 rfl (size28 _ _)) rfl ⟨rfl, hB⟩
set_option maxHeartbeats 1000000 in
set_option maxRecDepth 100000 in
theorem ratom_any (w : World) (s : ByteArray) : Calls Tryz.prog 20 #[.string s] w fun e w' => e = .returned (.agg #[.int .i8 1, .int .i64 0, .string s, .string ⟨#[]⟩, .slice none 0 0]) ∧ Below w.heap.size w w' := by
  have hn : (w.alloc (.cells #[.int .i8 0, .int .i64 0, .string ⟨#[]⟩, .string ⟨#[]⟩, .slice none 0 0] 25)).heap[w.heap.size]? = some (.cells (cells5 zeroT (.slice none 0 0)) 25 (0, 0)) := heap_new w _
  have hb := alloc_below w (.cells #[.int .i8 0, .int .i64 0, .string ⟨#[]⟩, .string ⟨#[]⟩, .slice none 0 0] 25)
  go_enter Tryz.func20, Tryz.ntmps20
  go_upto_region 1 with fail
  generalize w.alloc (.cells #[.int .i8 0, .int .i64 0, .string ⟨#[]⟩, .string ⟨#[]⟩, .slice none 0 0] 25) = w1 at hn hb ⊢
  have hr := setRow_heap' (cells := cells5 (aT s) (.slice none 0 0)) hn
  have hB := below_setRow (cells := cells5 (aT s) (.slice none 0 0)) hb (Nat.le_refl _)
  go_wp2_with (refine wpList_store_row rfl 25 _ _ rfl w.heap.size (cells5 (aT s) (.slice none 0 0)) (by kernel_rfl) (by kernel_rfl) 25 (cells5 zeroT (.slice none 0 0)) hn (size28 _ _) (by kernel_rfl) (by kernel_rfl) ?_)
  refine bodyPost_ret (v := .agg (cells5 (aT s) (.slice none 0 0))) (results_cell_row Tryz.results20 _ _ w.heap.size 25 (cells5 (aT s) (.slice none 0 0)) (0, 0) _ rfl hr Tryz.underlying25 rfl (size28 _ _)) rfl ⟨rfl, hB⟩
set_option maxHeartbeats 1000000 in
set_option maxRecDepth 100000 in
theorem rpid_any (w : World) (n : Int) : Calls Tryz.prog 28 #[.int .i64 n] w fun e w' => e = .returned (.agg #[.int .i8 4, .int .i64 n, .string ⟨#[]⟩, .string ⟨#[]⟩, .slice none 0 0]) ∧ Below w.heap.size w w' := by
  have hn : (w.alloc (.cells #[.int .i8 0, .int .i64 0, .string ⟨#[]⟩, .string ⟨#[]⟩, .slice none 0 0] 25)).heap[w.heap.size]? = some (.cells (cells5 zeroT (.slice none 0 0)) 25 (0, 0)) := heap_new w _
  have hb := alloc_below w (.cells #[.int .i8 0, .int .i64 0, .string ⟨#[]⟩, .string ⟨#[]⟩, .slice none 0 0] 25)
  go_enter Tryz.func28, Tryz.ntmps28
  go_upto_region 1 with fail
  generalize w.alloc (.cells #[.int .i8 0, .int .i64 0, .string ⟨#[]⟩, .string ⟨#[]⟩, .slice none 0 0] 25) = w1 at hn hb ⊢
  have hr := setRow_heap' (cells := cells5 (nT 4 n) (.slice none 0 0)) hn
  have hB := below_setRow (cells := cells5 (nT 4 n) (.slice none 0 0)) hb (Nat.le_refl _)
  go_wp2_with (refine wpList_store_row rfl 25 _ _ rfl w.heap.size (cells5 (nT 4 n) (.slice none 0 0)) (by kernel_rfl) (by kernel_rfl) 25 (cells5 zeroT (.slice none 0 0)) hn (size28 _ _) (by kernel_rfl) (by kernel_rfl) ?_)
  refine bodyPost_ret (v := .agg (cells5 (nT 4 n) (.slice none 0 0))) (results_cell_row Tryz.results28 _ _ w.heap.size 25 (cells5 (nT 4 n) (.slice none 0 0)) (0, 0) _ rfl hr Tryz.underlying25 rfl (size28 _ _)) rfl ⟨rfl, hB⟩
set_option maxHeartbeats 1000000 in
set_option maxRecDepth 100000 in
theorem rref_any (w : World) (n : Int) : Calls Tryz.prog 30 #[.int .i64 n] w fun e w' => e = .returned (.agg #[.int .i8 2, .int .i64 n, .string ⟨#[]⟩, .string ⟨#[]⟩, .slice none 0 0]) ∧ Below w.heap.size w w' := by
  have hn : (w.alloc (.cells #[.int .i8 0, .int .i64 0, .string ⟨#[]⟩, .string ⟨#[]⟩, .slice none 0 0] 25)).heap[w.heap.size]? = some (.cells (cells5 zeroT (.slice none 0 0)) 25 (0, 0)) := heap_new w _
  have hb := alloc_below w (.cells #[.int .i8 0, .int .i64 0, .string ⟨#[]⟩, .string ⟨#[]⟩, .slice none 0 0] 25)
  go_enter Tryz.func30, Tryz.ntmps30
  go_upto_region 1 with fail
  generalize w.alloc (.cells #[.int .i8 0, .int .i64 0, .string ⟨#[]⟩, .string ⟨#[]⟩, .slice none 0 0] 25) = w1 at hn hb ⊢
  have hr := setRow_heap' (cells := cells5 (nT 2 n) (.slice none 0 0)) hn
  have hB := below_setRow (cells := cells5 (nT 2 n) (.slice none 0 0)) hb (Nat.le_refl _)
  go_wp2_with (refine wpList_store_row rfl 25 _ _ rfl w.heap.size (cells5 (nT 2 n) (.slice none 0 0)) (by kernel_rfl) (by kernel_rfl) 25 (cells5 zeroT (.slice none 0 0)) hn (size28 _ _) (by kernel_rfl) (by kernel_rfl) ?_)
  refine bodyPost_ret (v := .agg (cells5 (nT 2 n) (.slice none 0 0))) (results_cell_row Tryz.results30 _ _ w.heap.size 25 (cells5 (nT 2 n) (.slice none 0 0)) (0, 0) _ rfl hr Tryz.underlying25 rfl (size28 _ _)) rfl ⟨rfl, hB⟩
set_option maxHeartbeats 1000000 in
set_option maxRecDepth 100000 in
theorem number_any (w : World) (k n : Int) : Calls Tryz.prog 26 #[.int .i8 k, .int .i64 n] w fun e w' => e = .returned (.agg #[.int .i8 k, .int .i64 (clN n), .string ⟨#[]⟩, .string ⟨#[]⟩, .slice none 0 0]) ∧ Below w.heap.size w w' := by
  by_cases h1 : n < 0
  · have e : clN n = 0 := by (unfold clN; omega)
    rw [e]
    have hn : (w.alloc (.cells #[.int .i8 0, .int .i64 0, .string ⟨#[]⟩, .string ⟨#[]⟩, .slice none 0 0] 25)).heap[w.heap.size]? = some (.cells (cells5 zeroT (.slice none 0 0)) 25 (0, 0)) := heap_new w _
    have hb := alloc_below w (.cells #[.int .i8 0, .int .i64 0, .string ⟨#[]⟩, .string ⟨#[]⟩, .slice none 0 0] 25)
    go_enter Tryz.func26, Tryz.ntmps26
    go_upto_region 1 with fail
    generalize w.alloc (.cells #[.int .i8 0, .int .i64 0, .string ⟨#[]⟩, .string ⟨#[]⟩, .slice none 0 0] 25) = w1 at hn hb ⊢
    have hr := setRow_heap' (cells := cells5 (nT k 0) (.slice none 0 0)) hn
    have hB := below_setRow (cells := cells5 (nT k 0) (.slice none 0 0)) hb (Nat.le_refl _)
    go_wp2_with (refine wpList_store_row rfl 25 _ _ rfl w.heap.size (cells5 (nT k 0) (.slice none 0 0)) (by kernel_rfl) (by kernel_rfl) 25 (cells5 zeroT (.slice none 0 0)) hn (size28 _ _) (by kernel_rfl) (by kernel_rfl) ?_)
    refine bodyPost_ret (v := .agg (cells5 (nT k 0) (.slice none 0 0))) (results_cell_row Tryz.results26 _ _ w.heap.size 25 (cells5 (nT k 0) (.slice none 0 0)) (0, 0) _ rfl hr Tryz.underlying25 rfl (size28 _ _)) rfl ⟨rfl, hB⟩
  · by_cases h2 : 576460752303423487 < n
    · have e : clN n = 576460752303423487 := by (unfold clN; omega)
      rw [e]
      have hn : (w.alloc (.cells #[.int .i8 0, .int .i64 0, .string ⟨#[]⟩, .string ⟨#[]⟩, .slice none 0 0] 25)).heap[w.heap.size]? = some (.cells (cells5 zeroT (.slice none 0 0)) 25 (0, 0)) := heap_new w _
      have hb := alloc_below w (.cells #[.int .i8 0, .int .i64 0, .string ⟨#[]⟩, .string ⟨#[]⟩, .slice none 0 0] 25)
      go_enter Tryz.func26, Tryz.ntmps26
      go_upto_region 1 with fail
      generalize w.alloc (.cells #[.int .i8 0, .int .i64 0, .string ⟨#[]⟩, .string ⟨#[]⟩, .slice none 0 0] 25) = w1 at hn hb ⊢
      have hr := setRow_heap' (cells := cells5 (nT k 576460752303423487) (.slice none 0 0)) hn
      have hB := below_setRow (cells := cells5 (nT k 576460752303423487) (.slice none 0 0)) hb (Nat.le_refl _)
      go_wp2_with (refine wpList_store_row rfl 25 _ _ rfl w.heap.size (cells5 (nT k 576460752303423487) (.slice none 0 0)) (by kernel_rfl) (by kernel_rfl) 25 (cells5 zeroT (.slice none 0 0)) hn (size28 _ _) (by kernel_rfl) (by kernel_rfl) ?_)
      refine bodyPost_ret (v := .agg (cells5 (nT k 576460752303423487) (.slice none 0 0))) (results_cell_row Tryz.results26 _ _ w.heap.size 25 (cells5 (nT k 576460752303423487) (.slice none 0 0)) (0, 0) _ rfl hr Tryz.underlying25 rfl (size28 _ _)) rfl ⟨rfl, hB⟩
    · have e : clN n = n := by (unfold clN; omega)
      rw [e]
      have hn : (w.alloc (.cells #[.int .i8 0, .int .i64 0, .string ⟨#[]⟩, .string ⟨#[]⟩, .slice none 0 0] 25)).heap[w.heap.size]? = some (.cells (cells5 zeroT (.slice none 0 0)) 25 (0, 0)) := heap_new w _
      have hb := alloc_below w (.cells #[.int .i8 0, .int .i64 0, .string ⟨#[]⟩, .string ⟨#[]⟩, .slice none 0 0] 25)
      go_enter Tryz.func26, Tryz.ntmps26
      go_upto_region 1 with fail
      generalize w.alloc (.cells #[.int .i8 0, .int .i64 0, .string ⟨#[]⟩, .string ⟨#[]⟩, .slice none 0 0] 25) = w1 at hn hb ⊢
      have hr := setRow_heap' (cells := cells5 (nT k n) (.slice none 0 0)) hn
      have hB := below_setRow (cells := cells5 (nT k n) (.slice none 0 0)) hb (Nat.le_refl _)
      go_wp2_with (refine wpList_store_row rfl 25 _ _ rfl w.heap.size (cells5 (nT k n) (.slice none 0 0)) (by kernel_rfl) (by kernel_rfl) 25 (cells5 zeroT (.slice none 0 0)) hn (size28 _ _) (by kernel_rfl) (by kernel_rfl) ?_)
      refine bodyPost_ret (v := .agg (cells5 (nT k n) (.slice none 0 0))) (results_cell_row Tryz.results26 _ _ w.heap.size 25 (cells5 (nT k n) (.slice none 0 0)) (0, 0) _ rfl hr Tryz.underlying25 rfl (size28 _ _)) rfl ⟨rfl, hB⟩
set_option maxHeartbeats 1000000 in
theorem sure_any (w : World) (n : Int) : Calls Tryz.prog 29 #[.int .i64 n] w fun e w' => e = .returned (.int .i64 (clN n)) ∧ w = w' := by
  by_cases h1 : n < 0
  · have e : clN n = 0 := by (unfold clN; omega)
    rw [e]
    go_enter Tryz.func29, Tryz.ntmps29
    go_wp2
    go_ret
    exact ⟨rfl, rfl⟩
  · by_cases h2 : 576460752303423487 < n
    · have e : clN n = 576460752303423487 := by (unfold clN; omega)
      rw [e]
      go_enter Tryz.func29, Tryz.ntmps29
      go_wp2
      go_ret
      exact ⟨rfl, rfl⟩
    · have e : clN n = n := by (unfold clN; omega)
      rw [e]
      go_enter Tryz.func29, Tryz.ntmps29
      go_wp2
      go_ret
      exact ⟨rfl, rfl⟩
set_option maxHeartbeats 8000000 in
set_option maxRecDepth 100000 in
theorem item3_any {F : Nat → Prop} {w : World} {g : Nat} {a c x : Tr} {va vc vx : Value} (hL : Letters w) (hg : w.heap[g]? = some (.cells (row15 a c x va vc vx) 25 (0, 0))) (ha : TrV F w a va) (hc : TrV F w c vc) (hx : TrV F w x vx) (hF : ¬ F g) (hlt : ∀ k, F k → k < w.heap.size) (h0 : g ≠ 0) :
    Calls Tryz.prog 24 #[.slice (some ⟨g, 0, none⟩) 3 3] w fun e w' => ∃ sv, e = .returned (.agg (cells6 (limS [a, c] x) true sv)) ∧ TrV (fun k => F k ∨ w.heap.size ≤ k ∨ k = g) w' (limS [a, c] x) sv ∧ Turn (· = g) w w' := by
  have hgl : g < w.heap.size := (Array.getElem?_eq_some_iff.1 hg).1
  have hn1 : (w.alloc (.cells (cells6 zeroT false (.slice none 0 0)) 29)).heap[w.heap.size]? = some (.cells (cells6 zeroT false (.slice none 0 0)) 29 (0, 0)) := heap_new w _
  have hb1 := alloc_below w (.cells (cells6 zeroT false (.slice none 0 0)) 29)
  have HL := Lib.hid hL
  have hg1 := (hb1.block _ hgl).trans hg
  have ha1 := ha.below hb1
  have hc1 := hc.below hb1
  have hx1 := hx.below hb1
  have hlt2 : ∀ k, F k → k ≠ w.heap.size := fun k hk => by have := hlt k hk; omega
  have hk1 : Kids (fun k => (F k ∨ w.heap.size ≤ k ∨ k = g) ∧ k ≠ w.heap.size) _ (.slice (some ⟨g, 0, none⟩) 3 3) [a, c, x] := kids_15 hg1 (ha1.mono fun k hk _ => ⟨.inl hk, hlt2 k hk⟩) (hc1.mono fun k hk _ => ⟨.inl hk, hlt2 k hk⟩) (hx1.mono fun k hk _ => ⟨.inl hk, hlt2 k hk⟩) ⟨.inr (.inr rfl), by omega⟩
  have cT1 := tuple_any (HL.out.under hb1) (F := fun k => (F k ∨ w.heap.size ≤ k ∨ k = g) ∧ k ≠ w.heap.size) (fun k hk => by have h1 := hb1.size; have h2 := (Array.getElem?_eq_some_iff.1 hn1).1; exact ⟨.inr (.inl (by omega)), by omega⟩) hk1 (by simp)
  have HLS := Lib.hid (show limS [a, c] x = if (madeS 5 [a, c, x]).2 = 0 then (madeS 5 [a, c, x]).1 else (madeS 5 [a, c, slT]).1 from rfl)
  obtain ⟨q1, hq1⟩ : ∃ q, madeS 5 [a, c, x] = q := ⟨_, rfl⟩
  obtain ⟨y1, e1⟩ := q1
  rw [hq1] at HLS cT1
  have HH := Lib.hid (And.intro hgl (And.intro hF (And.intro hlt2 hlt)))
  clear hL hg ha hc hx hlt hk1 hq1 hF hgl hlt2
  obtain ⟨ls, hls⟩ : ∃ q, limS [a, c] x = q := ⟨_, rfl⟩
  rw [hls] at HLS ⊢
  go_enter Tryz.func24, Tryz.ntmps24
  go_upto_region 1 with fail
  change Code.wp _ _ _ _ (w.alloc (.cells (cells6 zeroT false (.slice none 0 0)) 29))
  generalize w.alloc (.cells (cells6 zeroT false (.slice none 0 0)) 29) = w1 at hn1 hb1 hg1 cT1 ha1 hc1 hx1 ⊢
  have hz1 : w.heap.size < w1.heap.size := (Array.getElem?_eq_some_iff.1 hn1).1
  have HN1 := Lib.hid hn1
  have HG1 := Lib.hid hg1
  have HX1 := Lib.hid (And.intro hz1 (And.intro ha1 (And.intro hc1 hx1)))
  clear hn1 hg1 hz1 ha1 hc1 hx1
  go_upto_region 2 with (first
    | (go_at_call 48; refine cT1.mono ?_; rintro e w5 ⟨y, yv, er, rfl, hy5, hb5, hq⟩; cases hq; obtain ⟨q5, c5, rfl⟩ := hy5.kids.slice
       have hn6 : (w5.alloc (.cells (cells5 zeroT (.slice none 0 0)) 25)).heap[w5.heap.size]? = some (.cells (cells5 zeroT (.slice none 0 0)) 25 (0, 0)) := heap_new w5 _)
    | (refine wpList_store_row rfl 25 _ _ rfl w5.heap.size (cells5 y1 (.slice q5 y1.l.length c5)) (by kernel_rfl) (by kernel_rfl) 25 (cells5 zeroT (.slice none 0 0)) hn6 (size28 _ _) (by kernel_rfl) (by kernel_rfl) ?_))
  change Code.wp _ _ _ _ ((w5.alloc (.cells (cells5 zeroT (.slice none 0 0)) 25)).setRow w5.heap.size (cells5 y1 (.slice q5 y1.l.length c5)))
  have hr6 := setRow_heap' (cells := cells5 y1 (.slice q5 y1.l.length c5)) hn6
  have hb6 := below_setRow (g := w5.heap.size) (cells := cells5 y1 (.slice q5 y1.l.length c5)) (alloc_below w5 (.cells (cells5 zeroT (.slice none 0 0)) 25)) (Nat.le_refl _)
  have hy6 := hy5.below hb6
  generalize (w5.alloc (.cells (cells5 zeroT (.slice none 0 0)) 25)).setRow w5.heap.size (cells5 y1 (.slice q5 y1.l.length c5)) = w6 at hr6 hb6 hy6 ⊢
  clear hn6 hy5 cT1
  have hb16 := hb5.trans (hb6.mono hb5.size)
  have hn6 := (hb16.block _ HX1.out.1).trans HN1.out
  have hz5 : w.heap.size < w5.heap.size := by have := HX1.out.1; have := hb5.size; omega
  by_cases he : e1 = 0
  · subst he
    have HE : Hid (ls = y1) := by unfold Hid; rw [HLS.out]; rfl
    have hr9 := setRow_heap' (cells := cells6 y1 true (.slice q5 y1.l.length c5)) hn6
    have hB9 := below_setRow (g := w.heap.size) (cells := cells6 y1 true (.slice q5 y1.l.length c5)) (hb1.trans (hb16.mono hb1.size)) (Nat.le_refl _)
    have hy9 := hy6.move (P' := fun k => F k ∨ w.heap.size ≤ k ∨ k = g) (w' := w6.setRow w.heap.size (cells6 y1 true (.slice q5 y1.l.length c5))) (fun k hk _ => setRow_ne hk.2) (fun k hk _ => hk.1)
    obtain ⟨d0, d1, d2, d3, d4⟩ := node_heap hr6
    simp only [Nat.zero_add] at d1 d2 d3 d4
    go_wp2_with (first | (refine wpList_store_row rfl 29 _ _ rfl w.heap.size (cells6 y1 true (.slice q5 y1.l.length c5)) (by kernel_rfl) (by kernel_rfl) 29 (cells6 zeroT false (.slice none 0 0)) hn6 (size69 _ _ _) (by kernel_rfl) (by kernel_rfl) ?_))
    exact bodyPost_ret (v := .agg (cells6 y1 true (.slice q5 y1.l.length c5))) (results_cell_row Tryz.results24 _ _ w.heap.size 29 (cells6 y1 true (.slice q5 y1.l.length c5)) (0, 0) _ rfl hr9 Tryz.underlying29 rfl (size69 _ _ _)) rfl ⟨_, by rw [HE.out] <;> rfl, by rw [HE.out]; exact hy9, Turn.of_below hB9⟩
  · have hne : (e1 != 0) = true := by simpa using he
    have HE : Hid (ls = (madeS 5 [a, c, slT]).1) := by unfold Hid; rw [HLS.out]; exact if_neg he
    clear he
    go_upto_region 4 with (first
      | (go_at_call 25; refine (satom_any _ _).mono ?_; rintro e w7 ⟨rfl, hb7⟩
         have hg7 := (hb7.block _ (Nat.lt_of_lt_of_le (Array.getElem?_eq_some_iff.1 HG1.out).1 (hb16.size))).trans ((hb16.block _ (Array.getElem?_eq_some_iff.1 HG1.out).1).trans HG1.out)
         have ht7 := there_of (n := 5) (o := 10) hg7 (by show 10 + 5 ≤ 15; decide))
      | (refine wpList_store_mid rfl 25 _ _ rfl g 10 (cells5 slT (.slice none 0 0)) (by kernel_rfl) (by kernel_rfl) ?ha0 (size28 _ _) (by kernel_rfl) ?hb0; case ha0 => exact ht7))
    have hr8 := set15 (y := slT) (yv := .slice none 0 0) hg7
    have hb17 := hb16.trans (hb7.mono hb16.size)
    have hB7 := hb1.trans (hb17.mono hb1.size)
    have hne8 : ∀ k, k ≠ g → (w7.setCells g 10 (cells5 slT (.slice none 0 0)).toList).heap[k]? = w7.heap[k]? := fun k hk => setCells_ne hk _ _ _
    have hs8 := below_setCells (B := g) (Nat.le_refl _) (cells5 slT (.slice none 0 0)).toList 10 (Below.refl g w7)
    obtain ⟨hgl, hF, hlt2, hlt3⟩ := HH.out
    have tA : Turn (fun k => k = g ∨ w.heap.size ≤ k) w w7 := Turn.of_below hB7
    have tB : Turn (fun k => k = g ∨ w.heap.size ≤ k) w7 (w7.setCells g 10 (cells5 slT (.slice none 0 0)).toList) := ⟨hs8.os, hs8.tape, hs8.output, hs8.size, fun k _ hk => hne8 k (fun h => hk (.inl h))⟩
    have tAB := tA.trans tB
    have hL8 := HL.out.turn tAB (by have := HL.out.lt; omega)
    have hk8 : Kids (fun k => ((F k ∨ w.heap.size ≤ k ∨ k = g) ∧ k ≠ w.heap.size) ∧ k ≠ w5.heap.size) (w7.setCells g 10 (cells5 slT (.slice none 0 0)).toList) (.slice (some ⟨g, 0, none⟩) 3 3) [a, c, slT] := kids_15 hr8 ((HX1.out.2.1.below hb17).move (fun k hk _ => hne8 k (fun h => hF (h ▸ hk))) (fun k hk hl => ⟨⟨.inl hk, hlt2 k hk⟩, by have := hlt3 k hk; omega⟩)) ((HX1.out.2.2.1.below hb17).move (fun k hk _ => hne8 k (fun h => hF (h ▸ hk))) (fun k hk hl => ⟨⟨.inl hk, hlt2 k hk⟩, by have := hlt3 k hk; omega⟩)) (aT_lies (by decide)) ⟨⟨.inr (.inr rfl), by omega⟩, by omega⟩
    have hn8 : (w7.setCells g 10 (cells5 slT (.slice none 0 0)).toList).heap[w.heap.size]? = some (.cells (cells6 zeroT false (.slice none 0 0)) 29 (0, 0)) := (hne8 _ (by omega)).trans ((hb17.block _ HX1.out.1).trans HN1.out)
    have hm8 : (w7.setCells g 10 (cells5 slT (.slice none 0 0)).toList).heap[w5.heap.size]? = some (.cells (cells5 y1 (.slice q5 y1.l.length c5)) 25 (0, 0)) := (hne8 _ (by omega)).trans ((hb7.block _ (Array.getElem?_eq_some_iff.1 hr6).1).trans hr6)
    generalize w7.setCells g 10 (cells5 slT (.slice none 0 0)).toList = w8 at hr8 tAB hL8 hk8 hn8 hm8 ⊢
    have hsz8 : w5.heap.size < w8.heap.size := (Array.getElem?_eq_some_iff.1 hm8).1
    have cT2 := tuple_any hL8 (F := fun k => ((F k ∨ w.heap.size ≤ k ∨ k = g) ∧ k ≠ w.heap.size) ∧ k ≠ w5.heap.size) (fun k hk => ⟨⟨.inr (.inl (by omega)), by omega⟩, by omega⟩) hk8 (by simp)
    clear hs8 hne8 tA tB hg7 ht7 hk8
    obtain ⟨q2, hq2⟩ : ∃ q, madeS 5 [a, c, slT] = q := ⟨_, rfl⟩
    obtain ⟨y2, e2⟩ := q2
    rw [hq2] at HE cT2
    clear hq2 hy6 hr6 hn6
    go_upto_region 5 with (first
      | (go_at_call 48; refine cT2.mono ?_; rintro e w9 ⟨z2, zv, er, rfl, hy9, hb9, hq⟩; cases hq; obtain ⟨q9, c9, rfl⟩ := hy9.kids.slice
         have hm9 := (hb9.block _ hsz8).trans hm8
         have hn9 := (hb9.block _ (Nat.lt_trans hz5 hsz8)).trans hn8)
      | (refine wpList_store_row rfl 25 _ _ rfl w5.heap.size (cells5 y2 (.slice q9 y2.l.length c9)) (by kernel_rfl) (by kernel_rfl) 25 (cells5 y1 (.slice q5 y1.l.length c5)) hm9 (size28 _ _) (by kernel_rfl) (by kernel_rfl) ?_))
    have hr10 := setRow_heap' (cells := cells5 y2 (.slice q9 y2.l.length c9)) hm9
    have hb10 := below_setRow (g := w5.heap.size) (cells := cells5 y2 (.slice q9 y2.l.length c9)) (hb9.mono (Nat.le_of_lt (Nat.lt_trans hz5 hsz8))) (Nat.le_of_lt hz5)
    have hy10 := hy9.move (P' := fun k => (F k ∨ w.heap.size ≤ k ∨ k = g) ∧ k ≠ w.heap.size) (w' := w9.setRow w5.heap.size (cells5 y2 (.slice q9 y2.l.length c9))) (fun k hk _ => setRow_ne hk.2) (fun k hk _ => hk.1)
    have hn10 : (w9.setRow w5.heap.size (cells5 y2 (.slice q9 y2.l.length c9))).heap[w.heap.size]? = _ := (setRow_ne (by omega)).trans hn9
    generalize w9.setRow w5.heap.size (cells5 y2 (.slice q9 y2.l.length c9)) = w10 at hr10 hb10 hy10 hn10 ⊢
    obtain ⟨d0, d1, d2, d3, d4⟩ := node_heap hr10
    simp only [Nat.zero_add] at d1 d2 d3 d4
    have hr11 := setRow_heap' (cells := cells6 y2 true (.slice q9 y2.l.length c9)) hn10
    have hB11 := below_setRow (g := w.heap.size) (cells := cells6 y2 true (.slice q9 y2.l.length c9)) hb10 (Nat.le_refl _)
    have hy11 := hy10.move (P' := fun k => F k ∨ w.heap.size ≤ k ∨ k = g) (w' := w10.setRow w.heap.size (cells6 y2 true (.slice q9 y2.l.length c9))) (fun k hk _ => setRow_ne hk.2) (fun k hk _ => hk.1)
    have tC : Turn (fun k => k = g ∨ w.heap.size ≤ k) w8 (w10.setRow w.heap.size (cells6 y2 true (.slice q9 y2.l.length c9))) := ⟨hB11.os, hB11.tape, hB11.output, hB11.size, fun k _ hk => hB11.block k (by omega)⟩
    have tD := (tAB.trans tC).mono (T' := (· = g)) (fun k hk h => by omega)
    go_wp2_with (refine wpList_store_row rfl 29 _ _ rfl w.heap.size (cells6 y2 true (.slice q9 y2.l.length c9)) (by kernel_rfl) (by kernel_rfl) 29 (cells6 zeroT false (.slice none 0 0)) hn10 (size69 _ _ _) (by kernel_rfl) (by kernel_rfl) ?_)
    exact bodyPost_ret (v := .agg (cells6 y2 true (.slice q9 y2.l.length c9))) (results_cell_row Tryz.results24 _ _ w.heap.size 29 (cells6 y2 true (.slice q9 y2.l.length c9)) (0, 0) _ rfl hr11 Tryz.underlying29 rfl (size69 _ _ _)) rfl ⟨_, by rw [HE.out] <;> rfl, by rw [HE.out]; exact hy11, tD⟩

set_option maxHeartbeats 8000000 in
set_option maxRecDepth 100000 in
theorem item4_any {F : Nat → Prop} {w : World} {g : Nat} {a c d x : Tr} {va vc vd vx : Value} (hL : Letters w) (hg : w.heap[g]? = some (.cells (row20 a c d x va vc vd vx) 25 (0, 0))) (ha : TrV F w a va) (hc : TrV F w c vc) (hd : TrV F w d vd) (hx : TrV F w x vx) (hF : ¬ F g) (hlt : ∀ k, F k → k < w.heap.size) (h0 : g ≠ 0) :
    Calls Tryz.prog 24 #[.slice (some ⟨g, 0, none⟩) 4 4] w fun e w' => ∃ sv, e = .returned (.agg (cells6 (limS [a, c, d] x) true sv)) ∧ TrV (fun k => F k ∨ w.heap.size ≤ k ∨ k = g) w' (limS [a, c, d] x) sv ∧ Turn (· = g) w w' := by
  have hgl : g < w.heap.size := (Array.getElem?_eq_some_iff.1 hg).1
  have hn1 : (w.alloc (.cells (cells6 zeroT false (.slice none 0 0)) 29)).heap[w.heap.size]? = some (.cells (cells6 zeroT false (.slice none 0 0)) 29 (0, 0)) := heap_new w _
  have hb1 := alloc_below w (.cells (cells6 zeroT false (.slice none 0 0)) 29)
  have HL := Lib.hid hL
  have hg1 := (hb1.block _ hgl).trans hg
  have ha1 := ha.below hb1
  have hc1 := hc.below hb1
  have hd1 := hd.below hb1
  have hx1 := hx.below hb1
  have hlt2 : ∀ k, F k → k ≠ w.heap.size := fun k hk => by have := hlt k hk; omega
  have hk1 : Kids (fun k => (F k ∨ w.heap.size ≤ k ∨ k = g) ∧ k ≠ w.heap.size) _ (.slice (some ⟨g, 0, none⟩) 4 4) [a, c, d, x] := kids_20 hg1 (ha1.mono fun k hk _ => ⟨.inl hk, hlt2 k hk⟩) (hc1.mono fun k hk _ => ⟨.inl hk, hlt2 k hk⟩) (hd1.mono fun k hk _ => ⟨.inl hk, hlt2 k hk⟩) (hx1.mono fun k hk _ => ⟨.inl hk, hlt2 k hk⟩) ⟨.inr (.inr rfl), by omega⟩
  have cT1 := tuple_any (HL.out.under hb1) (F := fun k => (F k ∨ w.heap.size ≤ k ∨ k = g) ∧ k ≠ w.heap.size) (fun k hk => by have h1 := hb1.size; have h2 := (Array.getElem?_eq_some_iff.1 hn1).1; exact ⟨.inr (.inl (by omega)), by omega⟩) hk1 (by simp)
  have HLS := Lib.hid (show limS [a, c, d] x = if (madeS 5 [a, c, d, x]).2 = 0 then (madeS 5 [a, c, d, x]).1 else (madeS 5 [a, c, d, slT]).1 from rfl)
  obtain ⟨q1, hq1⟩ : ∃ q, madeS 5 [a, c, d, x] = q := ⟨_, rfl⟩
  obtain ⟨y1, e1⟩ := q1
  rw [hq1] at HLS cT1
  have HH := Lib.hid (And.intro hgl (And.intro hF (And.intro hlt2 hlt)))
  clear hL hg ha hc hd hx hlt hk1 hq1 hF hgl hlt2
  obtain ⟨ls, hls⟩ : ∃ q, limS [a, c, d] x = q := ⟨_, rfl⟩
  rw [hls] at HLS ⊢
  go_enter Tryz.func24, Tryz.ntmps24
  go_upto_region 1 with fail
  change Code.wp _ _ _ _ (w.alloc (.cells (cells6 zeroT false (.slice none 0 0)) 29))
  generalize w.alloc (.cells (cells6 zeroT false (.slice none 0 0)) 29) = w1 at hn1 hb1 hg1 cT1 ha1 hc1 hd1 hx1 ⊢
  have hz1 : w.heap.size < w1.heap.size := (Array.getElem?_eq_some_iff.1 hn1).1
  have HN1 := Lib.hid hn1
  have HG1 := Lib.hid hg1
  have HX1 := Lib.hid (And.intro hz1 (And.intro ha1 (And.intro hc1 (And.intro hd1 hx1))))
  clear hn1 hg1 hz1 ha1 hc1 hd1 hx1
  go_upto_region 2 with (first
    | (go_at_call 48; refine cT1.mono ?_; rintro e w5 ⟨y, yv, er, rfl, hy5, hb5, hq⟩; cases hq; obtain ⟨q5, c5, rfl⟩ := hy5.kids.slice
       have hn6 : (w5.alloc (.cells (cells5 zeroT (.slice none 0 0)) 25)).heap[w5.heap.size]? = some (.cells (cells5 zeroT (.slice none 0 0)) 25 (0, 0)) := heap_new w5 _)
    | (refine wpList_store_row rfl 25 _ _ rfl w5.heap.size (cells5 y1 (.slice q5 y1.l.length c5)) (by kernel_rfl) (by kernel_rfl) 25 (cells5 zeroT (.slice none 0 0)) hn6 (size28 _ _) (by kernel_rfl) (by kernel_rfl) ?_))
  change Code.wp _ _ _ _ ((w5.alloc (.cells (cells5 zeroT (.slice none 0 0)) 25)).setRow w5.heap.size (cells5 y1 (.slice q5 y1.l.length c5)))
  have hr6 := setRow_heap' (cells := cells5 y1 (.slice q5 y1.l.length c5)) hn6
  have hb6 := below_setRow (g := w5.heap.size) (cells := cells5 y1 (.slice q5 y1.l.length c5)) (alloc_below w5 (.cells (cells5 zeroT (.slice none 0 0)) 25)) (Nat.le_refl _)
  have hy6 := hy5.below hb6
  generalize (w5.alloc (.cells (cells5 zeroT (.slice none 0 0)) 25)).setRow w5.heap.size (cells5 y1 (.slice q5 y1.l.length c5)) = w6 at hr6 hb6 hy6 ⊢
  clear hn6 hy5 cT1
  have hb16 := hb5.trans (hb6.mono hb5.size)
  have hn6 := (hb16.block _ HX1.out.1).trans HN1.out
  have hz5 : w.heap.size < w5.heap.size := by have := HX1.out.1; have := hb5.size; omega
  by_cases he : e1 = 0
  · subst he
    have HE : Hid (ls = y1) := by unfold Hid; rw [HLS.out]; rfl
    have hr9 := setRow_heap' (cells := cells6 y1 true (.slice q5 y1.l.length c5)) hn6
    have hB9 := below_setRow (g := w.heap.size) (cells := cells6 y1 true (.slice q5 y1.l.length c5)) (hb1.trans (hb16.mono hb1.size)) (Nat.le_refl _)
    have hy9 := hy6.move (P' := fun k => F k ∨ w.heap.size ≤ k ∨ k = g) (w' := w6.setRow w.heap.size (cells6 y1 true (.slice q5 y1.l.length c5))) (fun k hk _ => setRow_ne hk.2) (fun k hk _ => hk.1)
    obtain ⟨d0, d1, d2, d3, d4⟩ := node_heap hr6
    simp only [Nat.zero_add] at d1 d2 d3 d4
    go_wp2_with (first | (refine wpList_store_row rfl 29 _ _ rfl w.heap.size (cells6 y1 true (.slice q5 y1.l.length c5)) (by kernel_rfl) (by kernel_rfl) 29 (cells6 zeroT false (.slice none 0 0)) hn6 (size69 _ _ _) (by kernel_rfl) (by kernel_rfl) ?_))
    exact bodyPost_ret (v := .agg (cells6 y1 true (.slice q5 y1.l.length c5))) (results_cell_row Tryz.results24 _ _ w.heap.size 29 (cells6 y1 true (.slice q5 y1.l.length c5)) (0, 0) _ rfl hr9 Tryz.underlying29 rfl (size69 _ _ _)) rfl ⟨_, by rw [HE.out] <;> rfl, by rw [HE.out]; exact hy9, Turn.of_below hB9⟩
  · have hne : (e1 != 0) = true := by simpa using he
    have HE : Hid (ls = (madeS 5 [a, c, d, slT]).1) := by unfold Hid; rw [HLS.out]; exact if_neg he
    clear he
    go_upto_region 4 with (first
      | (go_at_call 25; refine (satom_any _ _).mono ?_; rintro e w7 ⟨rfl, hb7⟩
         have hg7 := (hb7.block _ (Nat.lt_of_lt_of_le (Array.getElem?_eq_some_iff.1 HG1.out).1 (hb16.size))).trans ((hb16.block _ (Array.getElem?_eq_some_iff.1 HG1.out).1).trans HG1.out)
         have ht7 := there_of (n := 5) (o := 15) hg7 (by show 15 + 5 ≤ 20; decide))
      | (refine wpList_store_mid rfl 25 _ _ rfl g 15 (cells5 slT (.slice none 0 0)) (by kernel_rfl) (by kernel_rfl) ?ha0 (size28 _ _) (by kernel_rfl) ?hb0; case ha0 => exact ht7))
    have hr8 := set20 (y := slT) (yv := .slice none 0 0) hg7
    have hb17 := hb16.trans (hb7.mono hb16.size)
    have hB7 := hb1.trans (hb17.mono hb1.size)
    have hne8 : ∀ k, k ≠ g → (w7.setCells g 15 (cells5 slT (.slice none 0 0)).toList).heap[k]? = w7.heap[k]? := fun k hk => setCells_ne hk _ _ _
    have hs8 := below_setCells (B := g) (Nat.le_refl _) (cells5 slT (.slice none 0 0)).toList 15 (Below.refl g w7)
    obtain ⟨hgl, hF, hlt2, hlt3⟩ := HH.out
    have tA : Turn (fun k => k = g ∨ w.heap.size ≤ k) w w7 := Turn.of_below hB7
    have tB : Turn (fun k => k = g ∨ w.heap.size ≤ k) w7 (w7.setCells g 15 (cells5 slT (.slice none 0 0)).toList) := ⟨hs8.os, hs8.tape, hs8.output, hs8.size, fun k _ hk => hne8 k (fun h => hk (.inl h))⟩
    have tAB := tA.trans tB
    have hL8 := HL.out.turn tAB (by have := HL.out.lt; omega)
    have hk8 : Kids (fun k => ((F k ∨ w.heap.size ≤ k ∨ k = g) ∧ k ≠ w.heap.size) ∧ k ≠ w5.heap.size) (w7.setCells g 15 (cells5 slT (.slice none 0 0)).toList) (.slice (some ⟨g, 0, none⟩) 4 4) [a, c, d, slT] := kids_20 hr8 ((HX1.out.2.1.below hb17).move (fun k hk _ => hne8 k (fun h => hF (h ▸ hk))) (fun k hk hl => ⟨⟨.inl hk, hlt2 k hk⟩, by have := hlt3 k hk; omega⟩)) ((HX1.out.2.2.1.below hb17).move (fun k hk _ => hne8 k (fun h => hF (h ▸ hk))) (fun k hk hl => ⟨⟨.inl hk, hlt2 k hk⟩, by have := hlt3 k hk; omega⟩)) ((HX1.out.2.2.2.1.below hb17).move (fun k hk _ => hne8 k (fun h => hF (h ▸ hk))) (fun k hk hl => ⟨⟨.inl hk, hlt2 k hk⟩, by have := hlt3 k hk; omega⟩)) (aT_lies (by decide)) ⟨⟨.inr (.inr rfl), by omega⟩, by omega⟩
    have hn8 : (w7.setCells g 15 (cells5 slT (.slice none 0 0)).toList).heap[w.heap.size]? = some (.cells (cells6 zeroT false (.slice none 0 0)) 29 (0, 0)) := (hne8 _ (by omega)).trans ((hb17.block _ HX1.out.1).trans HN1.out)
    have hm8 : (w7.setCells g 15 (cells5 slT (.slice none 0 0)).toList).heap[w5.heap.size]? = some (.cells (cells5 y1 (.slice q5 y1.l.length c5)) 25 (0, 0)) := (hne8 _ (by omega)).trans ((hb7.block _ (Array.getElem?_eq_some_iff.1 hr6).1).trans hr6)
    generalize w7.setCells g 15 (cells5 slT (.slice none 0 0)).toList = w8 at hr8 tAB hL8 hk8 hn8 hm8 ⊢
    have hsz8 : w5.heap.size < w8.heap.size := (Array.getElem?_eq_some_iff.1 hm8).1
    have cT2 := tuple_any hL8 (F := fun k => ((F k ∨ w.heap.size ≤ k ∨ k = g) ∧ k ≠ w.heap.size) ∧ k ≠ w5.heap.size) (fun k hk => ⟨⟨.inr (.inl (by omega)), by omega⟩, by omega⟩) hk8 (by simp)
    clear hs8 hne8 tA tB hg7 ht7 hk8
    obtain ⟨q2, hq2⟩ : ∃ q, madeS 5 [a, c, d, slT] = q := ⟨_, rfl⟩
    obtain ⟨y2, e2⟩ := q2
    rw [hq2] at HE cT2
    clear hq2 hy6 hr6 hn6
    go_upto_region 5 with (first
      | (go_at_call 48; refine cT2.mono ?_; rintro e w9 ⟨z2, zv, er, rfl, hy9, hb9, hq⟩; cases hq; obtain ⟨q9, c9, rfl⟩ := hy9.kids.slice
         have hm9 := (hb9.block _ hsz8).trans hm8
         have hn9 := (hb9.block _ (Nat.lt_trans hz5 hsz8)).trans hn8)
      | (refine wpList_store_row rfl 25 _ _ rfl w5.heap.size (cells5 y2 (.slice q9 y2.l.length c9)) (by kernel_rfl) (by kernel_rfl) 25 (cells5 y1 (.slice q5 y1.l.length c5)) hm9 (size28 _ _) (by kernel_rfl) (by kernel_rfl) ?_))
    have hr10 := setRow_heap' (cells := cells5 y2 (.slice q9 y2.l.length c9)) hm9
    have hb10 := below_setRow (g := w5.heap.size) (cells := cells5 y2 (.slice q9 y2.l.length c9)) (hb9.mono (Nat.le_of_lt (Nat.lt_trans hz5 hsz8))) (Nat.le_of_lt hz5)
    have hy10 := hy9.move (P' := fun k => (F k ∨ w.heap.size ≤ k ∨ k = g) ∧ k ≠ w.heap.size) (w' := w9.setRow w5.heap.size (cells5 y2 (.slice q9 y2.l.length c9))) (fun k hk _ => setRow_ne hk.2) (fun k hk _ => hk.1)
    have hn10 : (w9.setRow w5.heap.size (cells5 y2 (.slice q9 y2.l.length c9))).heap[w.heap.size]? = _ := (setRow_ne (by omega)).trans hn9
    generalize w9.setRow w5.heap.size (cells5 y2 (.slice q9 y2.l.length c9)) = w10 at hr10 hb10 hy10 hn10 ⊢
    obtain ⟨d0, d1, d2, d3, d4⟩ := node_heap hr10
    simp only [Nat.zero_add] at d1 d2 d3 d4
    have hr11 := setRow_heap' (cells := cells6 y2 true (.slice q9 y2.l.length c9)) hn10
    have hB11 := below_setRow (g := w.heap.size) (cells := cells6 y2 true (.slice q9 y2.l.length c9)) hb10 (Nat.le_refl _)
    have hy11 := hy10.move (P' := fun k => F k ∨ w.heap.size ≤ k ∨ k = g) (w' := w10.setRow w.heap.size (cells6 y2 true (.slice q9 y2.l.length c9))) (fun k hk _ => setRow_ne hk.2) (fun k hk _ => hk.1)
    have tC : Turn (fun k => k = g ∨ w.heap.size ≤ k) w8 (w10.setRow w.heap.size (cells6 y2 true (.slice q9 y2.l.length c9))) := ⟨hB11.os, hB11.tape, hB11.output, hB11.size, fun k _ hk => hB11.block k (by omega)⟩
    have tD := (tAB.trans tC).mono (T' := (· = g)) (fun k hk h => by omega)
    go_wp2_with (refine wpList_store_row rfl 29 _ _ rfl w.heap.size (cells6 y2 true (.slice q9 y2.l.length c9)) (by kernel_rfl) (by kernel_rfl) 29 (cells6 zeroT false (.slice none 0 0)) hn10 (size69 _ _ _) (by kernel_rfl) (by kernel_rfl) ?_)
    exact bodyPost_ret (v := .agg (cells6 y2 true (.slice q9 y2.l.length c9))) (results_cell_row Tryz.results24 _ _ w.heap.size 29 (cells6 y2 true (.slice q9 y2.l.length c9)) (0, 0) _ rfl hr11 Tryz.underlying29 rfl (size69 _ _ _)) rfl ⟨_, by rw [HE.out] <;> rfl, by rw [HE.out]; exact hy11, tD⟩

set_option maxHeartbeats 8000000 in
set_option maxRecDepth 100000 in
theorem limit3_any {F : Nat → Prop} {w : World} {g : Nat} {a c x : Tr} {va vc vx : Value} (hL : Letters w) (hg : w.heap[g]? = some (.cells (row15 a c x va vc vx) 25 (0, 0))) (ha : TrV F w a va) (hc : TrV F w c vc) (hx : TrV F w x vx) (hF : ¬ F g) (hlt : ∀ k, F k → k < w.heap.size) (h0 : g ≠ 0) :
    Calls Tryz.prog 27 #[.slice (some ⟨g, 0, none⟩) 3 3] w fun e w' => ∃ sv, e = .returned (.agg #[.int .i8 (limS [a, c] x).k, .int .i64 (limS [a, c] x).n, .string (limS [a, c] x).s, .string (limS [a, c] x).t, sv]) ∧ TrV (fun k => F k ∨ w.heap.size ≤ k ∨ k = g) w' (limS [a, c] x) sv ∧ Turn (· = g) w w' := by
  have hgl : g < w.heap.size := (Array.getElem?_eq_some_iff.1 hg).1
  have hn1 : (w.alloc (.cells (cells5 zeroT (.slice none 0 0)) 25)).heap[w.heap.size]? = some (.cells (cells5 zeroT (.slice none 0 0)) 25 (0, 0)) := heap_new w _
  have hb1 := alloc_below w (.cells (cells5 zeroT (.slice none 0 0)) 25)
  have HL := Lib.hid hL
  have hg1 := (hb1.block _ hgl).trans hg
  have ha1 := ha.below hb1
  have hc1 := hc.below hb1
  have hx1 := hx.below hb1
  have hlt2 : ∀ k, F k → k ≠ w.heap.size := fun k hk => by have := hlt k hk; omega
  have hk1 : Kids (fun k => (F k ∨ w.heap.size ≤ k ∨ k = g) ∧ k ≠ w.heap.size) _ (.slice (some ⟨g, 0, none⟩) 3 3) [a, c, x] := kids_15 hg1 (ha1.mono fun k hk _ => ⟨.inl hk, hlt2 k hk⟩) (hc1.mono fun k hk _ => ⟨.inl hk, hlt2 k hk⟩) (hx1.mono fun k hk _ => ⟨.inl hk, hlt2 k hk⟩) ⟨.inr (.inr rfl), by omega⟩
  have cT1 := rtuple_any (F := fun k => (F k ∨ w.heap.size ≤ k ∨ k = g) ∧ k ≠ w.heap.size) (fun k hk => by have h1 := hb1.size; have h2 := (Array.getElem?_eq_some_iff.1 hn1).1; exact ⟨.inr (.inl (by omega)), by omega⟩) hk1 (by simp)
  have HLS := Lib.hid (show limS [a, c] x = if (madeS 5 [a, c, x]).2 = 0 then (madeS 5 [a, c, x]).1 else (madeS 5 [a, c, slT]).1 from rfl)
  obtain ⟨q1, hq1⟩ : ∃ q, madeS 5 [a, c, x] = q := ⟨_, rfl⟩
  obtain ⟨y1, e1⟩ := q1
  rw [hq1] at HLS cT1
  have HH := Lib.hid (And.intro hgl (And.intro hF (And.intro hlt2 hlt)))
  clear hL hg ha hc hx hlt hk1 hq1 hF hgl hlt2
  obtain ⟨ls, hls⟩ : ∃ q, limS [a, c] x = q := ⟨_, rfl⟩
  rw [hls] at HLS ⊢
  go_enter Tryz.func27, Tryz.ntmps27
  go_upto_region 1 with fail
  change Code.wp _ _ _ _ (w.alloc (.cells (cells5 zeroT (.slice none 0 0)) 25))
  generalize w.alloc (.cells (cells5 zeroT (.slice none 0 0)) 25) = w1 at hn1 hb1 hg1 cT1 ha1 hc1 hx1 ⊢
  have hz1 : w.heap.size < w1.heap.size := (Array.getElem?_eq_some_iff.1 hn1).1
  have HN1 := Lib.hid hn1
  have HG1 := Lib.hid hg1
  have HX1 := Lib.hid (And.intro hz1 (And.intro ha1 (And.intro hc1 hx1)))
  clear hn1 hg1 hz1 ha1 hc1 hx1
  go_upto_region 2 with (first
    | (go_at_call 49; refine cT1.mono ?_; rintro e w5 ⟨y, yv, er, rfl, hy5, hb5, hq⟩; cases hq; obtain ⟨q5, c5, rfl⟩ := hy5.kids.slice
       have hn6 : (w5.alloc (.cells (cells5 zeroT (.slice none 0 0)) 25)).heap[w5.heap.size]? = some (.cells (cells5 zeroT (.slice none 0 0)) 25 (0, 0)) := heap_new w5 _)
    | (refine wpList_store_row rfl 25 _ _ rfl w5.heap.size (cells5 y1 (.slice q5 y1.l.length c5)) (by kernel_rfl) (by kernel_rfl) 25 (cells5 zeroT (.slice none 0 0)) hn6 (size28 _ _) (by kernel_rfl) (by kernel_rfl) ?_))
  change Code.wp _ _ _ _ ((w5.alloc (.cells (cells5 zeroT (.slice none 0 0)) 25)).setRow w5.heap.size (cells5 y1 (.slice q5 y1.l.length c5)))
  have hr6 := setRow_heap' (cells := cells5 y1 (.slice q5 y1.l.length c5)) hn6
  have hb6 := below_setRow (g := w5.heap.size) (cells := cells5 y1 (.slice q5 y1.l.length c5)) (alloc_below w5 (.cells (cells5 zeroT (.slice none 0 0)) 25)) (Nat.le_refl _)
  have hy6 := hy5.below hb6
  generalize (w5.alloc (.cells (cells5 zeroT (.slice none 0 0)) 25)).setRow w5.heap.size (cells5 y1 (.slice q5 y1.l.length c5)) = w6 at hr6 hb6 hy6 ⊢
  clear hn6 hy5 cT1
  have hb16 := hb5.trans (hb6.mono hb5.size)
  have hn6 := (hb16.block _ HX1.out.1).trans HN1.out
  have hz5 : w.heap.size < w5.heap.size := by have := HX1.out.1; have := hb5.size; omega
  by_cases he : e1 = 0
  · subst he
    have HE : Hid (ls = y1) := by unfold Hid; rw [HLS.out]; rfl
    have hr9 := setRow_heap' (cells := cells5 y1 (.slice q5 y1.l.length c5)) hn6
    have hB9 := below_setRow (g := w.heap.size) (cells := cells5 y1 (.slice q5 y1.l.length c5)) (hb1.trans (hb16.mono hb1.size)) (Nat.le_refl _)
    have hy9 := hy6.move (P' := fun k => F k ∨ w.heap.size ≤ k ∨ k = g) (w' := w6.setRow w.heap.size (cells5 y1 (.slice q5 y1.l.length c5))) (fun k hk _ => setRow_ne hk.2) (fun k hk _ => hk.1)
    obtain ⟨d0, d1, d2, d3, d4⟩ := node_heap hr6
    simp only [Nat.zero_add] at d1 d2 d3 d4
    go_wp2_with (first | (refine wpList_store_row rfl 25 _ _ rfl w.heap.size (cells5 y1 (.slice q5 y1.l.length c5)) (by kernel_rfl) (by kernel_rfl) 25 (cells5 zeroT (.slice none 0 0)) hn6 (size28 _ _) (by kernel_rfl) (by kernel_rfl) ?_))
    exact bodyPost_ret (v := .agg (cells5 y1 (.slice q5 y1.l.length c5))) (results_cell_row Tryz.results27 _ _ w.heap.size 25 (cells5 y1 (.slice q5 y1.l.length c5)) (0, 0) _ rfl hr9 Tryz.underlying25 rfl (size28 _ _)) rfl ⟨_, by rw [HE.out] <;> rfl, by rw [HE.out]; exact hy9, Turn.of_below hB9⟩
  · have hne : (e1 != 0) = true := by simpa using he
    have HE : Hid (ls = (madeS 5 [a, c, slT]).1) := by unfold Hid; rw [HLS.out]; exact if_neg he
    clear he
    go_upto_region 4 with (first
      | (go_at_call 20; refine (ratom_any _ _).mono ?_; rintro e w7 ⟨rfl, hb7⟩
         have hg7 := (hb7.block _ (Nat.lt_of_lt_of_le (Array.getElem?_eq_some_iff.1 HG1.out).1 (hb16.size))).trans ((hb16.block _ (Array.getElem?_eq_some_iff.1 HG1.out).1).trans HG1.out)
         have ht7 := there_of (n := 5) (o := 10) hg7 (by show 10 + 5 ≤ 15; decide))
      | (refine wpList_store_mid rfl 25 _ _ rfl g 10 (cells5 slT (.slice none 0 0)) (by kernel_rfl) (by kernel_rfl) ?ha0 (size28 _ _) (by kernel_rfl) ?hb0; case ha0 => exact ht7))
    have hr8 := set15 (y := slT) (yv := .slice none 0 0) hg7
    have hb17 := hb16.trans (hb7.mono hb16.size)
    have hB7 := hb1.trans (hb17.mono hb1.size)
    have hne8 : ∀ k, k ≠ g → (w7.setCells g 10 (cells5 slT (.slice none 0 0)).toList).heap[k]? = w7.heap[k]? := fun k hk => setCells_ne hk _ _ _
    have hs8 := below_setCells (B := g) (Nat.le_refl _) (cells5 slT (.slice none 0 0)).toList 10 (Below.refl g w7)
    obtain ⟨hgl, hF, hlt2, hlt3⟩ := HH.out
    have tA : Turn (fun k => k = g ∨ w.heap.size ≤ k) w w7 := Turn.of_below hB7
    have tB : Turn (fun k => k = g ∨ w.heap.size ≤ k) w7 (w7.setCells g 10 (cells5 slT (.slice none 0 0)).toList) := ⟨hs8.os, hs8.tape, hs8.output, hs8.size, fun k _ hk => hne8 k (fun h => hk (.inl h))⟩
    have tAB := tA.trans tB
    have hL8 := HL.out.turn tAB (by have := HL.out.lt; omega)
    have hk8 : Kids (fun k => ((F k ∨ w.heap.size ≤ k ∨ k = g) ∧ k ≠ w.heap.size) ∧ k ≠ w5.heap.size) (w7.setCells g 10 (cells5 slT (.slice none 0 0)).toList) (.slice (some ⟨g, 0, none⟩) 3 3) [a, c, slT] := kids_15 hr8 ((HX1.out.2.1.below hb17).move (fun k hk _ => hne8 k (fun h => hF (h ▸ hk))) (fun k hk hl => ⟨⟨.inl hk, hlt2 k hk⟩, by have := hlt3 k hk; omega⟩)) ((HX1.out.2.2.1.below hb17).move (fun k hk _ => hne8 k (fun h => hF (h ▸ hk))) (fun k hk hl => ⟨⟨.inl hk, hlt2 k hk⟩, by have := hlt3 k hk; omega⟩)) (aT_lies (by decide)) ⟨⟨.inr (.inr rfl), by omega⟩, by omega⟩
    have hn8 : (w7.setCells g 10 (cells5 slT (.slice none 0 0)).toList).heap[w.heap.size]? = some (.cells (cells5 zeroT (.slice none 0 0)) 25 (0, 0)) := (hne8 _ (by omega)).trans ((hb17.block _ HX1.out.1).trans HN1.out)
    have hm8 : (w7.setCells g 10 (cells5 slT (.slice none 0 0)).toList).heap[w5.heap.size]? = some (.cells (cells5 y1 (.slice q5 y1.l.length c5)) 25 (0, 0)) := (hne8 _ (by omega)).trans ((hb7.block _ (Array.getElem?_eq_some_iff.1 hr6).1).trans hr6)
    generalize w7.setCells g 10 (cells5 slT (.slice none 0 0)).toList = w8 at hr8 tAB hL8 hk8 hn8 hm8 ⊢
    have hsz8 : w5.heap.size < w8.heap.size := (Array.getElem?_eq_some_iff.1 hm8).1
    have cT2 := rtuple_any (F := fun k => ((F k ∨ w.heap.size ≤ k ∨ k = g) ∧ k ≠ w.heap.size) ∧ k ≠ w5.heap.size) (fun k hk => ⟨⟨.inr (.inl (by omega)), by omega⟩, by omega⟩) hk8 (by simp)
    clear hs8 hne8 tA tB hg7 ht7 hk8
    obtain ⟨q2, hq2⟩ : ∃ q, madeS 5 [a, c, slT] = q := ⟨_, rfl⟩
    obtain ⟨y2, e2⟩ := q2
    rw [hq2] at HE cT2
    clear hq2 hy6 hr6 hn6
    go_upto_region 5 with (first
      | (go_at_call 49; refine cT2.mono ?_; rintro e w9 ⟨z2, zv, er, rfl, hy9, hb9, hq⟩; cases hq; obtain ⟨q9, c9, rfl⟩ := hy9.kids.slice
         have hm9 := (hb9.block _ hsz8).trans hm8
         have hn9 := (hb9.block _ (Nat.lt_trans hz5 hsz8)).trans hn8)
      | (refine wpList_store_row rfl 25 _ _ rfl w5.heap.size (cells5 y2 (.slice q9 y2.l.length c9)) (by kernel_rfl) (by kernel_rfl) 25 (cells5 y1 (.slice q5 y1.l.length c5)) hm9 (size28 _ _) (by kernel_rfl) (by kernel_rfl) ?_))
    have hr10 := setRow_heap' (cells := cells5 y2 (.slice q9 y2.l.length c9)) hm9
    have hb10 := below_setRow (g := w5.heap.size) (cells := cells5 y2 (.slice q9 y2.l.length c9)) (hb9.mono (Nat.le_of_lt (Nat.lt_trans hz5 hsz8))) (Nat.le_of_lt hz5)
    have hy10 := hy9.move (P' := fun k => (F k ∨ w.heap.size ≤ k ∨ k = g) ∧ k ≠ w.heap.size) (w' := w9.setRow w5.heap.size (cells5 y2 (.slice q9 y2.l.length c9))) (fun k hk _ => setRow_ne hk.2) (fun k hk _ => hk.1)
    have hn10 : (w9.setRow w5.heap.size (cells5 y2 (.slice q9 y2.l.length c9))).heap[w.heap.size]? = _ := (setRow_ne (by omega)).trans hn9
    generalize w9.setRow w5.heap.size (cells5 y2 (.slice q9 y2.l.length c9)) = w10 at hr10 hb10 hy10 hn10 ⊢
    obtain ⟨d0, d1, d2, d3, d4⟩ := node_heap hr10
    simp only [Nat.zero_add] at d1 d2 d3 d4
    have hr11 := setRow_heap' (cells := cells5 y2 (.slice q9 y2.l.length c9)) hn10
    have hB11 := below_setRow (g := w.heap.size) (cells := cells5 y2 (.slice q9 y2.l.length c9)) hb10 (Nat.le_refl _)
    have hy11 := hy10.move (P' := fun k => F k ∨ w.heap.size ≤ k ∨ k = g) (w' := w10.setRow w.heap.size (cells5 y2 (.slice q9 y2.l.length c9))) (fun k hk _ => setRow_ne hk.2) (fun k hk _ => hk.1)
    have tC : Turn (fun k => k = g ∨ w.heap.size ≤ k) w8 (w10.setRow w.heap.size (cells5 y2 (.slice q9 y2.l.length c9))) := ⟨hB11.os, hB11.tape, hB11.output, hB11.size, fun k _ hk => hB11.block k (by omega)⟩
    have tD := (tAB.trans tC).mono (T' := (· = g)) (fun k hk h => by omega)
    go_wp2_with (refine wpList_store_row rfl 25 _ _ rfl w.heap.size (cells5 y2 (.slice q9 y2.l.length c9)) (by kernel_rfl) (by kernel_rfl) 25 (cells5 zeroT (.slice none 0 0)) hn10 (size28 _ _) (by kernel_rfl) (by kernel_rfl) ?_)
    exact bodyPost_ret (v := .agg (cells5 y2 (.slice q9 y2.l.length c9))) (results_cell_row Tryz.results27 _ _ w.heap.size 25 (cells5 y2 (.slice q9 y2.l.length c9)) (0, 0) _ rfl hr11 Tryz.underlying25 rfl (size28 _ _)) rfl ⟨_, by rw [HE.out] <;> rfl, by rw [HE.out]; exact hy11, tD⟩

set_option maxHeartbeats 8000000 in
set_option maxRecDepth 100000 in
theorem limit4_any {F : Nat → Prop} {w : World} {g : Nat} {a c d x : Tr} {va vc vd vx : Value} (hL : Letters w) (hg : w.heap[g]? = some (.cells (row20 a c d x va vc vd vx) 25 (0, 0))) (ha : TrV F w a va) (hc : TrV F w c vc) (hd : TrV F w d vd) (hx : TrV F w x vx) (hF : ¬ F g) (hlt : ∀ k, F k → k < w.heap.size) (h0 : g ≠ 0) :
    Calls Tryz.prog 27 #[.slice (some ⟨g, 0, none⟩) 4 4] w fun e w' => ∃ sv, e = .returned (.agg #[.int .i8 (limS [a, c, d] x).k, .int .i64 (limS [a, c, d] x).n, .string (limS [a, c, d] x).s, .string (limS [a, c, d] x).t, sv]) ∧ TrV (fun k => F k ∨ w.heap.size ≤ k ∨ k = g) w' (limS [a, c, d] x) sv ∧ Turn (· = g) w w' := by
  have hgl : g < w.heap.size := (Array.getElem?_eq_some_iff.1 hg).1
  have hn1 : (w.alloc (.cells (cells5 zeroT (.slice none 0 0)) 25)).heap[w.heap.size]? = some (.cells (cells5 zeroT (.slice none 0 0)) 25 (0, 0)) := heap_new w _
  have hb1 := alloc_below w (.cells (cells5 zeroT (.slice none 0 0)) 25)
  have HL := Lib.hid hL
  have hg1 := (hb1.block _ hgl).trans hg
  have ha1 := ha.below hb1
  have hc1 := hc.below hb1
  have hd1 := hd.below hb1
  have hx1 := hx.below hb1
  have hlt2 : ∀ k, F k → k ≠ w.heap.size := fun k hk => by have := hlt k hk; omega
  have hk1 : Kids (fun k => (F k ∨ w.heap.size ≤ k ∨ k = g) ∧ k ≠ w.heap.size) _ (.slice (some ⟨g, 0, none⟩) 4 4) [a, c, d, x] := kids_20 hg1 (ha1.mono fun k hk _ => ⟨.inl hk, hlt2 k hk⟩) (hc1.mono fun k hk _ => ⟨.inl hk, hlt2 k hk⟩) (hd1.mono fun k hk _ => ⟨.inl hk, hlt2 k hk⟩) (hx1.mono fun k hk _ => ⟨.inl hk, hlt2 k hk⟩) ⟨.inr (.inr rfl), by omega⟩
  have cT1 := rtuple_any (F := fun k => (F k ∨ w.heap.size ≤ k ∨ k = g) ∧ k ≠ w.heap.size) (fun k hk => by have h1 := hb1.size; have h2 := (Array.getElem?_eq_some_iff.1 hn1).1; exact ⟨.inr (.inl (by omega)), by omega⟩) hk1 (by simp)
  have HLS := Lib.hid (show limS [a, c, d] x = if (madeS 5 [a, c, d, x]).2 = 0 then (madeS 5 [a, c, d, x]).1 else (madeS 5 [a, c, d, slT]).1 from rfl)
  obtain ⟨q1, hq1⟩ : ∃ q, madeS 5 [a, c, d, x] = q := ⟨_, rfl⟩
  obtain ⟨y1, e1⟩ := q1
  rw [hq1] at HLS cT1
  have HH := Lib.hid (And.intro hgl (And.intro hF (And.intro hlt2 hlt)))
  clear hL hg ha hc hd hx hlt hk1 hq1 hF hgl hlt2
  obtain ⟨ls, hls⟩ : ∃ q, limS [a, c, d] x = q := ⟨_, rfl⟩
  rw [hls] at HLS ⊢
  go_enter Tryz.func27, Tryz.ntmps27
  go_upto_region 1 with fail
  change Code.wp _ _ _ _ (w.alloc (.cells (cells5 zeroT (.slice none 0 0)) 25))
  generalize w.alloc (.cells (cells5 zeroT (.slice none 0 0)) 25) = w1 at hn1 hb1 hg1 cT1 ha1 hc1 hd1 hx1 ⊢
  have hz1 : w.heap.size < w1.heap.size := (Array.getElem?_eq_some_iff.1 hn1).1
  have HN1 := Lib.hid hn1
  have HG1 := Lib.hid hg1
  have HX1 := Lib.hid (And.intro hz1 (And.intro ha1 (And.intro hc1 (And.intro hd1 hx1))))
  clear hn1 hg1 hz1 ha1 hc1 hd1 hx1
  go_upto_region 2 with (first
    | (go_at_call 49; refine cT1.mono ?_; rintro e w5 ⟨y, yv, er, rfl, hy5, hb5, hq⟩; cases hq; obtain ⟨q5, c5, rfl⟩ := hy5.kids.slice
       have hn6 : (w5.alloc (.cells (cells5 zeroT (.slice none 0 0)) 25)).heap[w5.heap.size]? = some (.cells (cells5 zeroT (.slice none 0 0)) 25 (0, 0)) := heap_new w5 _)
    | (refine wpList_store_row rfl 25 _ _ rfl w5.heap.size (cells5 y1 (.slice q5 y1.l.length c5)) (by kernel_rfl) (by kernel_rfl) 25 (cells5 zeroT (.slice none 0 0)) hn6 (size28 _ _) (by kernel_rfl) (by kernel_rfl) ?_))
  change Code.wp _ _ _ _ ((w5.alloc (.cells (cells5 zeroT (.slice none 0 0)) 25)).setRow w5.heap.size (cells5 y1 (.slice q5 y1.l.length c5)))
  have hr6 := setRow_heap' (cells := cells5 y1 (.slice q5 y1.l.length c5)) hn6
  have hb6 := below_setRow (g := w5.heap.size) (cells := cells5 y1 (.slice q5 y1.l.length c5)) (alloc_below w5 (.cells (cells5 zeroT (.slice none 0 0)) 25)) (Nat.le_refl _)
  have hy6 := hy5.below hb6
  generalize (w5.alloc (.cells (cells5 zeroT (.slice none 0 0)) 25)).setRow w5.heap.size (cells5 y1 (.slice q5 y1.l.length c5)) = w6 at hr6 hb6 hy6 ⊢
  clear hn6 hy5 cT1
  have hb16 := hb5.trans (hb6.mono hb5.size)
  have hn6 := (hb16.block _ HX1.out.1).trans HN1.out
  have hz5 : w.heap.size < w5.heap.size := by have := HX1.out.1; have := hb5.size; omega
  by_cases he : e1 = 0
  · subst he
    have HE : Hid (ls = y1) := by unfold Hid; rw [HLS.out]; rfl
    have hr9 := setRow_heap' (cells := cells5 y1 (.slice q5 y1.l.length c5)) hn6
    have hB9 := below_setRow (g := w.heap.size) (cells := cells5 y1 (.slice q5 y1.l.length c5)) (hb1.trans (hb16.mono hb1.size)) (Nat.le_refl _)
    have hy9 := hy6.move (P' := fun k => F k ∨ w.heap.size ≤ k ∨ k = g) (w' := w6.setRow w.heap.size (cells5 y1 (.slice q5 y1.l.length c5))) (fun k hk _ => setRow_ne hk.2) (fun k hk _ => hk.1)
    obtain ⟨d0, d1, d2, d3, d4⟩ := node_heap hr6
    simp only [Nat.zero_add] at d1 d2 d3 d4
    go_wp2_with (first | (refine wpList_store_row rfl 25 _ _ rfl w.heap.size (cells5 y1 (.slice q5 y1.l.length c5)) (by kernel_rfl) (by kernel_rfl) 25 (cells5 zeroT (.slice none 0 0)) hn6 (size28 _ _) (by kernel_rfl) (by kernel_rfl) ?_))
    exact bodyPost_ret (v := .agg (cells5 y1 (.slice q5 y1.l.length c5))) (results_cell_row Tryz.results27 _ _ w.heap.size 25 (cells5 y1 (.slice q5 y1.l.length c5)) (0, 0) _ rfl hr9 Tryz.underlying25 rfl (size28 _ _)) rfl ⟨_, by rw [HE.out] <;> rfl, by rw [HE.out]; exact hy9, Turn.of_below hB9⟩
  · have hne : (e1 != 0) = true := by simpa using he
    have HE : Hid (ls = (madeS 5 [a, c, d, slT]).1) := by unfold Hid; rw [HLS.out]; exact if_neg he
    clear he
    go_upto_region 4 with (first
      | (go_at_call 20; refine (ratom_any _ _).mono ?_; rintro e w7 ⟨rfl, hb7⟩
         have hg7 := (hb7.block _ (Nat.lt_of_lt_of_le (Array.getElem?_eq_some_iff.1 HG1.out).1 (hb16.size))).trans ((hb16.block _ (Array.getElem?_eq_some_iff.1 HG1.out).1).trans HG1.out)
         have ht7 := there_of (n := 5) (o := 15) hg7 (by show 15 + 5 ≤ 20; decide))
      | (refine wpList_store_mid rfl 25 _ _ rfl g 15 (cells5 slT (.slice none 0 0)) (by kernel_rfl) (by kernel_rfl) ?ha0 (size28 _ _) (by kernel_rfl) ?hb0; case ha0 => exact ht7))
    have hr8 := set20 (y := slT) (yv := .slice none 0 0) hg7
    have hb17 := hb16.trans (hb7.mono hb16.size)
    have hB7 := hb1.trans (hb17.mono hb1.size)
    have hne8 : ∀ k, k ≠ g → (w7.setCells g 15 (cells5 slT (.slice none 0 0)).toList).heap[k]? = w7.heap[k]? := fun k hk => setCells_ne hk _ _ _
    have hs8 := below_setCells (B := g) (Nat.le_refl _) (cells5 slT (.slice none 0 0)).toList 15 (Below.refl g w7)
    obtain ⟨hgl, hF, hlt2, hlt3⟩ := HH.out
    have tA : Turn (fun k => k = g ∨ w.heap.size ≤ k) w w7 := Turn.of_below hB7
    have tB : Turn (fun k => k = g ∨ w.heap.size ≤ k) w7 (w7.setCells g 15 (cells5 slT (.slice none 0 0)).toList) := ⟨hs8.os, hs8.tape, hs8.output, hs8.size, fun k _ hk => hne8 k (fun h => hk (.inl h))⟩
    have tAB := tA.trans tB
    have hL8 := HL.out.turn tAB (by have := HL.out.lt; omega)
    have hk8 : Kids (fun k => ((F k ∨ w.heap.size ≤ k ∨ k = g) ∧ k ≠ w.heap.size) ∧ k ≠ w5.heap.size) (w7.setCells g 15 (cells5 slT (.slice none 0 0)).toList) (.slice (some ⟨g, 0, none⟩) 4 4) [a, c, d, slT] := kids_20 hr8 ((HX1.out.2.1.below hb17).move (fun k hk _ => hne8 k (fun h => hF (h ▸ hk))) (fun k hk hl => ⟨⟨.inl hk, hlt2 k hk⟩, by have := hlt3 k hk; omega⟩)) ((HX1.out.2.2.1.below hb17).move (fun k hk _ => hne8 k (fun h => hF (h ▸ hk))) (fun k hk hl => ⟨⟨.inl hk, hlt2 k hk⟩, by have := hlt3 k hk; omega⟩)) ((HX1.out.2.2.2.1.below hb17).move (fun k hk _ => hne8 k (fun h => hF (h ▸ hk))) (fun k hk hl => ⟨⟨.inl hk, hlt2 k hk⟩, by have := hlt3 k hk; omega⟩)) (aT_lies (by decide)) ⟨⟨.inr (.inr rfl), by omega⟩, by omega⟩
    have hn8 : (w7.setCells g 15 (cells5 slT (.slice none 0 0)).toList).heap[w.heap.size]? = some (.cells (cells5 zeroT (.slice none 0 0)) 25 (0, 0)) := (hne8 _ (by omega)).trans ((hb17.block _ HX1.out.1).trans HN1.out)
    have hm8 : (w7.setCells g 15 (cells5 slT (.slice none 0 0)).toList).heap[w5.heap.size]? = some (.cells (cells5 y1 (.slice q5 y1.l.length c5)) 25 (0, 0)) := (hne8 _ (by omega)).trans ((hb7.block _ (Array.getElem?_eq_some_iff.1 hr6).1).trans hr6)
    generalize w7.setCells g 15 (cells5 slT (.slice none 0 0)).toList = w8 at hr8 tAB hL8 hk8 hn8 hm8 ⊢
    have hsz8 : w5.heap.size < w8.heap.size := (Array.getElem?_eq_some_iff.1 hm8).1
    have cT2 := rtuple_any (F := fun k => ((F k ∨ w.heap.size ≤ k ∨ k = g) ∧ k ≠ w.heap.size) ∧ k ≠ w5.heap.size) (fun k hk => ⟨⟨.inr (.inl (by omega)), by omega⟩, by omega⟩) hk8 (by simp)
    clear hs8 hne8 tA tB hg7 ht7 hk8
    obtain ⟨q2, hq2⟩ : ∃ q, madeS 5 [a, c, d, slT] = q := ⟨_, rfl⟩
    obtain ⟨y2, e2⟩ := q2
    rw [hq2] at HE cT2
    clear hq2 hy6 hr6 hn6
    go_upto_region 5 with (first
      | (go_at_call 49; refine cT2.mono ?_; rintro e w9 ⟨z2, zv, er, rfl, hy9, hb9, hq⟩; cases hq; obtain ⟨q9, c9, rfl⟩ := hy9.kids.slice
         have hm9 := (hb9.block _ hsz8).trans hm8
         have hn9 := (hb9.block _ (Nat.lt_trans hz5 hsz8)).trans hn8)
      | (refine wpList_store_row rfl 25 _ _ rfl w5.heap.size (cells5 y2 (.slice q9 y2.l.length c9)) (by kernel_rfl) (by kernel_rfl) 25 (cells5 y1 (.slice q5 y1.l.length c5)) hm9 (size28 _ _) (by kernel_rfl) (by kernel_rfl) ?_))
    have hr10 := setRow_heap' (cells := cells5 y2 (.slice q9 y2.l.length c9)) hm9
    have hb10 := below_setRow (g := w5.heap.size) (cells := cells5 y2 (.slice q9 y2.l.length c9)) (hb9.mono (Nat.le_of_lt (Nat.lt_trans hz5 hsz8))) (Nat.le_of_lt hz5)
    have hy10 := hy9.move (P' := fun k => (F k ∨ w.heap.size ≤ k ∨ k = g) ∧ k ≠ w.heap.size) (w' := w9.setRow w5.heap.size (cells5 y2 (.slice q9 y2.l.length c9))) (fun k hk _ => setRow_ne hk.2) (fun k hk _ => hk.1)
    have hn10 : (w9.setRow w5.heap.size (cells5 y2 (.slice q9 y2.l.length c9))).heap[w.heap.size]? = _ := (setRow_ne (by omega)).trans hn9
    generalize w9.setRow w5.heap.size (cells5 y2 (.slice q9 y2.l.length c9)) = w10 at hr10 hb10 hy10 hn10 ⊢
    obtain ⟨d0, d1, d2, d3, d4⟩ := node_heap hr10
    simp only [Nat.zero_add] at d1 d2 d3 d4
    have hr11 := setRow_heap' (cells := cells5 y2 (.slice q9 y2.l.length c9)) hn10
    have hB11 := below_setRow (g := w.heap.size) (cells := cells5 y2 (.slice q9 y2.l.length c9)) hb10 (Nat.le_refl _)
    have hy11 := hy10.move (P' := fun k => F k ∨ w.heap.size ≤ k ∨ k = g) (w' := w10.setRow w.heap.size (cells5 y2 (.slice q9 y2.l.length c9))) (fun k hk _ => setRow_ne hk.2) (fun k hk _ => hk.1)
    have tC : Turn (fun k => k = g ∨ w.heap.size ≤ k) w8 (w10.setRow w.heap.size (cells5 y2 (.slice q9 y2.l.length c9))) := ⟨hB11.os, hB11.tape, hB11.output, hB11.size, fun k _ hk => hB11.block k (by omega)⟩
    have tD := (tAB.trans tC).mono (T' := (· = g)) (fun k hk h => by omega)
    go_wp2_with (refine wpList_store_row rfl 25 _ _ rfl w.heap.size (cells5 y2 (.slice q9 y2.l.length c9)) (by kernel_rfl) (by kernel_rfl) 25 (cells5 zeroT (.slice none 0 0)) hn10 (size28 _ _) (by kernel_rfl) (by kernel_rfl) ?_)
    exact bodyPost_ret (v := .agg (cells5 y2 (.slice q9 y2.l.length c9))) (results_cell_row Tryz.results27 _ _ w.heap.size 25 (cells5 y2 (.slice q9 y2.l.length c9)) (0, 0) _ rfl hr11 Tryz.underlying25 rfl (size28 _ _)) rfl ⟨_, by rw [HE.out] <;> rfl, by rw [HE.out]; exact hy11, tD⟩

end Go.Proofs.YtgliogfggajfgaaGreatDoor
