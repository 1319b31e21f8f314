/-
  guard.value: what a guard expression tells. Conditions: the expression lies as 'TrV' says and may be; the names lie as 'Binds' says.
-/
import Derived.Test.YtlhobpknflobgaaGreatDoorGv6
namespace Go.Proofs.YtlhobpknflobgaaGreatDoor
open Go.RowKit

def nil9 : Array Value := #[.nilFunc, .nilFunc, .nilFunc, .nilFunc, .nilFunc, .nilFunc, .nilFunc, .nilFunc, .nilFunc]
def gvV (bl b3 : Nat) : Array Value := #[.nilFunc, .nilFunc, .nilFunc, .nilFunc, .nilFunc, .func (Fn.func 106) #[] #[.pointer (some ⟨bl, 0, none⟩), .pointer (some ⟨b3, 0, none⟩)], .func (Fn.func 108) #[] #[.pointer (some ⟨b3, 0, none⟩)], .func (Fn.func 109) #[] #[.pointer (some ⟨b3, 0, none⟩)], .func (Fn.func 110) #[] #[]]
theorem size9 (bl b3 : Nat) : (Tryz.prog.info? 120).map (·.size) = some (gvV bl b3).size := by kernel_rfl
theorem leaf_some (fn : Fn) (a c : Array Value) (w : World) : (binOp BinOp.neq 119 (.func fn a c) .nilFunc).run Tryz.prog w = .ok (.bool true) w := by kernel_rfl

/-- What guard.value's closure tells. -/
def GvSays (l : List Bd) (x : Tr) : Prop := ∀ (F : Nat → Prop) (w : World) (bl bof g o : Nat) (sv v : Value), Letters w → (∀ k, w.heap.size ≤ k → F k) → NodeAt w g o x sv → TrV F w x sv → w.cell? ⟨bl, 0, none⟩ = some v → Binds F w v l →
    w.cell? ⟨bof, 0, none⟩ = some (.func (Fn.func 105) #[] #[.pointer (some ⟨bl, 0, none⟩), .pointer (some ⟨bof, 0, none⟩)]) → x.grd = true → gmayB l = true → x.nn ≤ 1048576 →
    Calls Tryz.prog 105 #[.pointer (some ⟨g, o, none⟩), .pointer (some ⟨bl, 0, none⟩), .pointer (some ⟨bof, 0, none⟩)] w (GvPost F (x.gval l) w)
/-- What the round knows. -/
def GvRel (F : Nat → Prop) (l : List Bd) (x : Tr) (S b : Nat) (w2 : World) (s i : Value) (wr : World) : Prop :=
  ∃ k : Nat, k ≤ x.l.length ∧ i = .int .i64 k ∧ ∃ L : List (Tr × Value), TRow F S b 29 wr s L ∧ Below w2.heap.size w2 wr ∧ GSt x l k (L.map (·.1)) ∧ L.length = k
/-- What a part's value leaves. -/
def GvMid (F : Nat → Prop) (S : Nat) (wr : World) (oo : Option Tr) (s9 s10 : Value) (wx : World) : Prop :=
  ∃ (b9 : Nat) (y : Tr) (yv : Value), s9 = .pointer (some ⟨b9, 0, none⟩) ∧ wx.heap[b9]? = some (.cells (cells5 y yv) 29 (0, 0)) ∧ TrV (fun g => (F g ∧ g < S) ∨ wr.heap.size ≤ g) wx y yv ∧ Below wr.heap.size wr wx ∧ ((s10 = .nilIface ∧ oo = some y) ∨ ((∃ k, JoinAt wx s10 93 k) ∧ oo = none))


set_option maxHeartbeats 4000000 in
set_option maxRecDepth 100000 in
theorem gleaf5_any {l : List Bd} {x : Tr} {F : Nat → Prop} {w : World} {bl bof g o : Nat} {sv v : Value} (hL : Letters w) (hF : ∀ k, w.heap.size ≤ k → F k) (hn : NodeAt w g o x sv) (hx : TrV F w x sv) (hbl : w.cell? ⟨bl, 0, none⟩ = some v) (hl : Binds F w v l) (hk : x.k = 5) :
    Calls Tryz.prog 105 #[.pointer (some ⟨g, o, none⟩), .pointer (some ⟨bl, 0, none⟩), .pointer (some ⟨bof, 0, none⟩)] w (GvPost F (x.gval l) w) := by
  obtain ⟨p1, c1, rfl⟩ := hx.kids.slice
  obtain ⟨pl, cl, rfl⟩ := hl.slice
  obtain ⟨n1, n2, hb1, hz1'⟩ := two_new w (.cells #[.pointer (some ⟨g, o, none⟩)] 80) (.cells (cells5 zeroT (.slice none 0 0)) 29)
  have HZ1 := Lib.hid hz1'
  have HF := Lib.hid hF
  have HN := Lib.hid (fun W (hb : Below w.heap.size w W) => hn.keep (hb.block _ hn.lt))
  have HX := Lib.hid (hx.mono (P' := fun g => F g ∧ g < w.heap.size) fun g hg h => ⟨hg, h⟩)
  have HB := Lib.hid (hl.mono (F' := fun g => F g ∧ g < w.heap.size) fun g hg h => ⟨hg, h⟩)
  have HL := Lib.hid hL
  have HC := Lib.hid (fun W (hb : Below w.heap.size w W) => (hb.cell (p := ⟨bl, 0, none⟩) (cell_block hbl)).trans hbl)
  have HG := Lib.hid (show x.gval l = gvarS l x.s by rw [gval_eq]; rw [if_pos hk])
  clear hF hn hx hl hL hbl hz1'
  go_enter Tryz.func105, Tryz.ntmps105
  go_upto_region 1 with fail
  change Code.wp _ _ _ _ ((w.alloc (.cells #[.pointer (some ⟨g, o, none⟩)] 80)).alloc (.cells (cells5 zeroT (.slice none 0 0)) 29))
  generalize (w.alloc (.cells #[.pointer (some ⟨g, o, none⟩)] 80)).alloc (.cells (cells5 zeroT (.slice none 0 0)) 29) = w1 at n1 n2 hb1 HZ1 ⊢
  have hn0 : (w1.alloc (.cells nil9 120)).heap[w1.heap.size]? = some (.cells nil9 120 (0, 0)) := heap_new w1 _
  have hb2 := below_setRow (g := w1.heap.size) (cells := gvV bl w.heap.size) (alloc_below w1 (.cells nil9 120)) (Nat.le_refl _)
  have hk2 := setRow_heap' (cells := gvV bl w.heap.size) hn0
  have hz2' : ((w1.alloc (.cells nil9 120)).setRow w1.heap.size (gvV bl w.heap.size)).heap.size = w1.heap.size + 1 := by simp [World.setRow]
  have HZ2 := Lib.hid hz2'
  clear hz2'
  go_upto_region 2 with (first
    | (refine wpList_build rfl 120 _ rfl (by kernel_rfl) ?_)
    | (refine wpList_store_row rfl 120 _ _ rfl w1.heap.size (gvV bl w.heap.size) (by kernel_rfl) (by kernel_rfl) 120 nil9 hn0 (size9 _ _) (by kernel_rfl) (by kernel_rfl) ?_))
  change Code.wp _ _ _ _ ((w1.alloc (.cells nil9 120)).setRow w1.heap.size (gvV bl w.heap.size))
  generalize (w1.alloc (.cells nil9 120)).setRow w1.heap.size (gvV bl w.heap.size) = w2 at hb2 hk2 HZ2 ⊢
  clear hn0
  generalize (Program.built _ _ _).getD #[] = ar
  have hbw2 := hb1.trans (hb2.mono hb1.size)
  have hlt1 : w.heap.size + 1 < w1.heap.size := by have := HZ1.out; omega
  have hz2 := (hb2.block _ hlt1).trans n2
  have u3 : w2.cell? ⟨w.heap.size, 0, none⟩ = some (.pointer (some ⟨g, o, none⟩)) := (arr_cell ((hb2.block _ (show w.heap.size < w1.heap.size by omega)).trans n1)).trans rfl
  obtain ⟨a0, a1, a2, a3, a4⟩ := HN.out w2 hbw2
  have hlt2 : w.heap.size + 1 < w2.heap.size := by have := HZ2.out; omega
  have HLT1 := Lib.hid hlt1
  have HLT2 := Lib.hid hlt2
  clear n1 n2 hlt1 hlt2
  have t5 : w2.cell? ⟨w1.heap.size, 5, none⟩ = some (.func (Fn.func 106) #[] #[.pointer (some ⟨bl, 0, none⟩), .pointer (some ⟨w.heap.size, 0, none⟩)]) := (arr_cell hk2).trans rfl
  rw [hk] at a0
  have hrs := leaf_some
  have HNW := Lib.hid (hz2 : _)
  have cL := lvar_any (F := fun g => F g ∧ g ≠ w.heap.size + 1) (HC.out w2 hbw2) ((HB.out.mono fun g hg _ => ⟨hg.1, by omega⟩).under hbw2) u3 (HN.out w2 hbw2)
  have HK := Lib.hid hk
  clear hk a1 a2 a3 a4 hk2
  go_wp2_with (first
    | (go_at_call 106; refine cL.mono ?_; rintro e w5 ⟨y, yv, ev, rfl, hy5, hb5, hc5⟩; obtain ⟨p5, c5, rfl⟩ := hy5.kids.slice; have hn5 := (hb5.block _ HLT2.out).trans HNW.out; have HC5 := Lib.hid hc5; clear hc5)
    | (refine wpList_store_row rfl 29 _ _ rfl (w.heap.size + 1) (cells5 y (.slice p5 y.l.length c5)) (by kernel_rfl) (by kernel_rfl) 29 (cells5 zeroT (.slice none 0 0)) hn5 (size28 _ _) (by kernel_rfl) (by kernel_rfl) ?_))
  have hr9 := setRow_heap' (cells := cells5 y (.slice p5 y.l.length c5)) hn5
  have hB9 := below_setRow (g := w.heap.size + 1) (cells := cells5 y (.slice p5 y.l.length c5)) (hbw2.trans (hb5.mono hbw2.size)) (by omega)
  have hy9 := hy5.move (P' := F) (w' := w5.setRow (w.heap.size + 1) (cells5 y (.slice p5 y.l.length c5))) (fun g hg _ => setRow_ne hg.2) (fun g hg _ => hg.1)
  refine bodyPost_ret (v := .tuple #[.agg (cells5 y (.slice p5 y.l.length c5)), ev]) (results_term Tryz.results105 _ _ _ _ _ rfl hr9) rfl ⟨y, _, ev, rfl, hy9, hB9, ?_⟩
  rw [HG.out]
  rcases HC5.out with h | ⟨⟨k, hj⟩, h⟩
  · exact .inl h
  · exact .inr ⟨⟨k, hj.setRow hn5⟩, h⟩


set_option maxHeartbeats 4000000 in
set_option maxRecDepth 100000 in
theorem gleaf6_any {l : List Bd} {x : Tr} {F : Nat → Prop} {w : World} {bl bof g o : Nat} {sv v : Value} (hL : Letters w) (hF : ∀ k, w.heap.size ≤ k → F k) (hn : NodeAt w g o x sv) (hx : TrV F w x sv) (hbl : w.cell? ⟨bl, 0, none⟩ = some v) (hl : Binds F w v l) (hk : x.k = 6) :
    Calls Tryz.prog 105 #[.pointer (some ⟨g, o, none⟩), .pointer (some ⟨bl, 0, none⟩), .pointer (some ⟨bof, 0, none⟩)] w (GvPost F (x.gval l) w) := by
  obtain ⟨p1, c1, rfl⟩ := hx.kids.slice
  obtain ⟨pl, cl, rfl⟩ := hl.slice
  obtain ⟨n1, n2, hb1, hz1'⟩ := two_new w (.cells #[.pointer (some ⟨g, o, none⟩)] 80) (.cells (cells5 zeroT (.slice none 0 0)) 29)
  have HZ1 := Lib.hid hz1'
  have HF := Lib.hid hF
  have HN := Lib.hid (fun W (hb : Below w.heap.size w W) => hn.keep (hb.block _ hn.lt))
  have HX := Lib.hid (hx.mono (P' := fun g => F g ∧ g < w.heap.size) fun g hg h => ⟨hg, h⟩)
  have HB := Lib.hid (hl.mono (F' := fun g => F g ∧ g < w.heap.size) fun g hg h => ⟨hg, h⟩)
  have HL := Lib.hid hL
  have HC := Lib.hid (fun W (hb : Below w.heap.size w W) => (hb.cell (p := ⟨bl, 0, none⟩) (cell_block hbl)).trans hbl)
  have HG := Lib.hid (show x.gval l = some (.mk 0 x.n ⟨#[]⟩ ⟨#[]⟩ []) by rw [gval_eq]; rw [if_neg (by omega), if_pos hk])
  clear hF hn hx hl hL hbl hz1'
  go_enter Tryz.func105, Tryz.ntmps105
  go_upto_region 1 with fail
  change Code.wp _ _ _ _ ((w.alloc (.cells #[.pointer (some ⟨g, o, none⟩)] 80)).alloc (.cells (cells5 zeroT (.slice none 0 0)) 29))
  generalize (w.alloc (.cells #[.pointer (some ⟨g, o, none⟩)] 80)).alloc (.cells (cells5 zeroT (.slice none 0 0)) 29) = w1 at n1 n2 hb1 HZ1 ⊢
  have hn0 : (w1.alloc (.cells nil9 120)).heap[w1.heap.size]? = some (.cells nil9 120 (0, 0)) := heap_new w1 _
  have hb2 := below_setRow (g := w1.heap.size) (cells := gvV bl w.heap.size) (alloc_below w1 (.cells nil9 120)) (Nat.le_refl _)
  have hk2 := setRow_heap' (cells := gvV bl w.heap.size) hn0
  have hz2' : ((w1.alloc (.cells nil9 120)).setRow w1.heap.size (gvV bl w.heap.size)).heap.size = w1.heap.size + 1 := by simp [World.setRow]
  have HZ2 := Lib.hid hz2'
  clear hz2'
  go_upto_region 2 with (first
    | (refine wpList_build rfl 120 _ rfl (by kernel_rfl) ?_)
    | (refine wpList_store_row rfl 120 _ _ rfl w1.heap.size (gvV bl w.heap.size) (by kernel_rfl) (by kernel_rfl) 120 nil9 hn0 (size9 _ _) (by kernel_rfl) (by kernel_rfl) ?_))
  change Code.wp _ _ _ _ ((w1.alloc (.cells nil9 120)).setRow w1.heap.size (gvV bl w.heap.size))
  generalize (w1.alloc (.cells nil9 120)).setRow w1.heap.size (gvV bl w.heap.size) = w2 at hb2 hk2 HZ2 ⊢
  clear hn0
  generalize (Program.built _ _ _).getD #[] = ar
  have hbw2 := hb1.trans (hb2.mono hb1.size)
  have hlt1 : w.heap.size + 1 < w1.heap.size := by have := HZ1.out; omega
  have hz2 := (hb2.block _ hlt1).trans n2
  have u3 : w2.cell? ⟨w.heap.size, 0, none⟩ = some (.pointer (some ⟨g, o, none⟩)) := (arr_cell ((hb2.block _ (show w.heap.size < w1.heap.size by omega)).trans n1)).trans rfl
  obtain ⟨a0, a1, a2, a3, a4⟩ := HN.out w2 hbw2
  have hlt2 : w.heap.size + 1 < w2.heap.size := by have := HZ2.out; omega
  have HLT1 := Lib.hid hlt1
  have HLT2 := Lib.hid hlt2
  clear n1 n2 hlt1 hlt2
  have t5 : w2.cell? ⟨w1.heap.size, 6, none⟩ = some (.func (Fn.func 108) #[] #[.pointer (some ⟨w.heap.size, 0, none⟩)]) := (arr_cell hk2).trans rfl
  rw [hk] at a0
  have hrs := leaf_some
  have HNW := Lib.hid (hz2 : _)
  have cL := lint_any (F := fun g => F g ∧ g ≠ w.heap.size + 1) u3 (HN.out w2 hbw2) HX.out.wf
  have HK := Lib.hid hk
  clear hk a1 a2 a3 a4 hk2
  go_wp2_with (first
    | (go_at_call 108; refine cL.mono ?_; rintro e w5 ⟨y, yv, ev, rfl, hy5, hb5, hc5⟩; obtain ⟨p5, c5, rfl⟩ := hy5.kids.slice; have hn5 := (hb5.block _ HLT2.out).trans HNW.out; have HC5 := Lib.hid hc5; clear hc5)
    | (refine wpList_store_row rfl 29 _ _ rfl (w.heap.size + 1) (cells5 y (.slice p5 y.l.length c5)) (by kernel_rfl) (by kernel_rfl) 29 (cells5 zeroT (.slice none 0 0)) hn5 (size28 _ _) (by kernel_rfl) (by kernel_rfl) ?_))
  have hr9 := setRow_heap' (cells := cells5 y (.slice p5 y.l.length c5)) hn5
  have hB9 := below_setRow (g := w.heap.size + 1) (cells := cells5 y (.slice p5 y.l.length c5)) (hbw2.trans (hb5.mono hbw2.size)) (by omega)
  have hy9 := hy5.move (P' := F) (w' := w5.setRow (w.heap.size + 1) (cells5 y (.slice p5 y.l.length c5))) (fun g hg _ => setRow_ne hg.2) (fun g hg _ => hg.1)
  refine bodyPost_ret (v := .tuple #[.agg (cells5 y (.slice p5 y.l.length c5)), ev]) (results_term Tryz.results105 _ _ _ _ _ rfl hr9) rfl ⟨y, _, ev, rfl, hy9, hB9, ?_⟩
  rw [HG.out]
  rcases HC5.out with h | ⟨⟨k, hj⟩, h⟩
  · exact .inl h
  · exact .inr ⟨⟨k, hj.setRow hn5⟩, h⟩


set_option maxHeartbeats 4000000 in
set_option maxRecDepth 100000 in
theorem gleaf7_any {l : List Bd} {x : Tr} {F : Nat → Prop} {w : World} {bl bof g o : Nat} {sv v : Value} (hL : Letters w) (hF : ∀ k, w.heap.size ≤ k → F k) (hn : NodeAt w g o x sv) (hx : TrV F w x sv) (hbl : w.cell? ⟨bl, 0, none⟩ = some v) (hl : Binds F w v l) (hk : x.k = 7) :
    Calls Tryz.prog 105 #[.pointer (some ⟨g, o, none⟩), .pointer (some ⟨bl, 0, none⟩), .pointer (some ⟨bof, 0, none⟩)] w (GvPost F (x.gval l) w) := by
  obtain ⟨p1, c1, rfl⟩ := hx.kids.slice
  obtain ⟨pl, cl, rfl⟩ := hl.slice
  obtain ⟨n1, n2, hb1, hz1'⟩ := two_new w (.cells #[.pointer (some ⟨g, o, none⟩)] 80) (.cells (cells5 zeroT (.slice none 0 0)) 29)
  have HZ1 := Lib.hid hz1'
  have HF := Lib.hid hF
  have HN := Lib.hid (fun W (hb : Below w.heap.size w W) => hn.keep (hb.block _ hn.lt))
  have HX := Lib.hid (hx.mono (P' := fun g => F g ∧ g < w.heap.size) fun g hg h => ⟨hg, h⟩)
  have HB := Lib.hid (hl.mono (F' := fun g => F g ∧ g < w.heap.size) fun g hg h => ⟨hg, h⟩)
  have HL := Lib.hid hL
  have HC := Lib.hid (fun W (hb : Below w.heap.size w W) => (hb.cell (p := ⟨bl, 0, none⟩) (cell_block hbl)).trans hbl)
  have HG := Lib.hid (show x.gval l = some (.mk 1 0 x.s ⟨#[]⟩ []) by rw [gval_eq]; rw [if_neg (by omega), if_neg (by omega), if_pos hk])
  clear hF hn hx hl hL hbl hz1'
  go_enter Tryz.func105, Tryz.ntmps105
  go_upto_region 1 with fail
  change Code.wp _ _ _ _ ((w.alloc (.cells #[.pointer (some ⟨g, o, none⟩)] 80)).alloc (.cells (cells5 zeroT (.slice none 0 0)) 29))
  generalize (w.alloc (.cells #[.pointer (some ⟨g, o, none⟩)] 80)).alloc (.cells (cells5 zeroT (.slice none 0 0)) 29) = w1 at n1 n2 hb1 HZ1 ⊢
  have hn0 : (w1.alloc (.cells nil9 120)).heap[w1.heap.size]? = some (.cells nil9 120 (0, 0)) := heap_new w1 _
  have hb2 := below_setRow (g := w1.heap.size) (cells := gvV bl w.heap.size) (alloc_below w1 (.cells nil9 120)) (Nat.le_refl _)
  have hk2 := setRow_heap' (cells := gvV bl w.heap.size) hn0
  have hz2' : ((w1.alloc (.cells nil9 120)).setRow w1.heap.size (gvV bl w.heap.size)).heap.size = w1.heap.size + 1 := by simp [World.setRow]
  have HZ2 := Lib.hid hz2'
  clear hz2'
  go_upto_region 2 with (first
    | (refine wpList_build rfl 120 _ rfl (by kernel_rfl) ?_)
    | (refine wpList_store_row rfl 120 _ _ rfl w1.heap.size (gvV bl w.heap.size) (by kernel_rfl) (by kernel_rfl) 120 nil9 hn0 (size9 _ _) (by kernel_rfl) (by kernel_rfl) ?_))
  change Code.wp _ _ _ _ ((w1.alloc (.cells nil9 120)).setRow w1.heap.size (gvV bl w.heap.size))
  generalize (w1.alloc (.cells nil9 120)).setRow w1.heap.size (gvV bl w.heap.size) = w2 at hb2 hk2 HZ2 ⊢
  clear hn0
  generalize (Program.built _ _ _).getD #[] = ar
  have hbw2 := hb1.trans (hb2.mono hb1.size)
  have hlt1 : w.heap.size + 1 < w1.heap.size := by have := HZ1.out; omega
  have hz2 := (hb2.block _ hlt1).trans n2
  have u3 : w2.cell? ⟨w.heap.size, 0, none⟩ = some (.pointer (some ⟨g, o, none⟩)) := (arr_cell ((hb2.block _ (show w.heap.size < w1.heap.size by omega)).trans n1)).trans rfl
  obtain ⟨a0, a1, a2, a3, a4⟩ := HN.out w2 hbw2
  have hlt2 : w.heap.size + 1 < w2.heap.size := by have := HZ2.out; omega
  have HLT1 := Lib.hid hlt1
  have HLT2 := Lib.hid hlt2
  clear n1 n2 hlt1 hlt2
  have t5 : w2.cell? ⟨w1.heap.size, 7, none⟩ = some (.func (Fn.func 109) #[] #[.pointer (some ⟨w.heap.size, 0, none⟩)]) := (arr_cell hk2).trans rfl
  rw [hk] at a0
  have hrs := leaf_some
  have HNW := Lib.hid (hz2 : _)
  have cL := latom_any (F := fun g => F g ∧ g ≠ w.heap.size + 1) u3 (HN.out w2 hbw2) HX.out.wf
  have HK := Lib.hid hk
  clear hk a1 a2 a3 a4 hk2
  go_wp2_with (first
    | (go_at_call 109; refine cL.mono ?_; rintro e w5 ⟨y, yv, ev, rfl, hy5, hb5, hc5⟩; obtain ⟨p5, c5, rfl⟩ := hy5.kids.slice; have hn5 := (hb5.block _ HLT2.out).trans HNW.out; have HC5 := Lib.hid hc5; clear hc5)
    | (refine wpList_store_row rfl 29 _ _ rfl (w.heap.size + 1) (cells5 y (.slice p5 y.l.length c5)) (by kernel_rfl) (by kernel_rfl) 29 (cells5 zeroT (.slice none 0 0)) hn5 (size28 _ _) (by kernel_rfl) (by kernel_rfl) ?_))
  have hr9 := setRow_heap' (cells := cells5 y (.slice p5 y.l.length c5)) hn5
  have hB9 := below_setRow (g := w.heap.size + 1) (cells := cells5 y (.slice p5 y.l.length c5)) (hbw2.trans (hb5.mono hbw2.size)) (by omega)
  have hy9 := hy5.move (P' := F) (w' := w5.setRow (w.heap.size + 1) (cells5 y (.slice p5 y.l.length c5))) (fun g hg _ => setRow_ne hg.2) (fun g hg _ => hg.1)
  refine bodyPost_ret (v := .tuple #[.agg (cells5 y (.slice p5 y.l.length c5)), ev]) (results_term Tryz.results105 _ _ _ _ _ rfl hr9) rfl ⟨y, _, ev, rfl, hy9, hB9, ?_⟩
  rw [HG.out]
  rcases HC5.out with h | ⟨⟨k, hj⟩, h⟩
  · exact .inl h
  · exact .inr ⟨⟨k, hj.setRow hn5⟩, h⟩


set_option maxHeartbeats 4000000 in
set_option maxRecDepth 100000 in
theorem gleaf8_any {l : List Bd} {x : Tr} {F : Nat → Prop} {w : World} {bl bof g o : Nat} {sv v : Value} (hL : Letters w) (hF : ∀ k, w.heap.size ≤ k → F k) (hn : NodeAt w g o x sv) (hx : TrV F w x sv) (hbl : w.cell? ⟨bl, 0, none⟩ = some v) (hl : Binds F w v l) (hk : x.k = 8) :
    Calls Tryz.prog 105 #[.pointer (some ⟨g, o, none⟩), .pointer (some ⟨bl, 0, none⟩), .pointer (some ⟨bof, 0, none⟩)] w (GvPost F (x.gval l) w) := by
  obtain ⟨p1, c1, rfl⟩ := hx.kids.slice
  obtain ⟨pl, cl, rfl⟩ := hl.slice
  obtain ⟨n1, n2, hb1, hz1'⟩ := two_new w (.cells #[.pointer (some ⟨g, o, none⟩)] 80) (.cells (cells5 zeroT (.slice none 0 0)) 29)
  have HZ1 := Lib.hid hz1'
  have HF := Lib.hid hF
  have HN := Lib.hid (fun W (hb : Below w.heap.size w W) => hn.keep (hb.block _ hn.lt))
  have HX := Lib.hid (hx.mono (P' := fun g => F g ∧ g < w.heap.size) fun g hg h => ⟨hg, h⟩)
  have HB := Lib.hid (hl.mono (F' := fun g => F g ∧ g < w.heap.size) fun g hg h => ⟨hg, h⟩)
  have HL := Lib.hid hL
  have HC := Lib.hid (fun W (hb : Below w.heap.size w W) => (hb.cell (p := ⟨bl, 0, none⟩) (cell_block hbl)).trans hbl)
  have HG := Lib.hid (show x.gval l = some (.mk 6 0 ⟨#[]⟩ ⟨#[]⟩ []) by rw [gval_eq]; rw [if_neg (by omega), if_neg (by omega), if_neg (by omega), if_pos hk])
  clear hF hn hx hl hL hbl hz1'
  go_enter Tryz.func105, Tryz.ntmps105
  go_upto_region 1 with fail
  change Code.wp _ _ _ _ ((w.alloc (.cells #[.pointer (some ⟨g, o, none⟩)] 80)).alloc (.cells (cells5 zeroT (.slice none 0 0)) 29))
  generalize (w.alloc (.cells #[.pointer (some ⟨g, o, none⟩)] 80)).alloc (.cells (cells5 zeroT (.slice none 0 0)) 29) = w1 at n1 n2 hb1 HZ1 ⊢
  have hn0 : (w1.alloc (.cells nil9 120)).heap[w1.heap.size]? = some (.cells nil9 120 (0, 0)) := heap_new w1 _
  have hb2 := below_setRow (g := w1.heap.size) (cells := gvV bl w.heap.size) (alloc_below w1 (.cells nil9 120)) (Nat.le_refl _)
  have hk2 := setRow_heap' (cells := gvV bl w.heap.size) hn0
  have hz2' : ((w1.alloc (.cells nil9 120)).setRow w1.heap.size (gvV bl w.heap.size)).heap.size = w1.heap.size + 1 := by simp [World.setRow]
  have HZ2 := Lib.hid hz2'
  clear hz2'
  go_upto_region 2 with (first
    | (refine wpList_build rfl 120 _ rfl (by kernel_rfl) ?_)
    | (refine wpList_store_row rfl 120 _ _ rfl w1.heap.size (gvV bl w.heap.size) (by kernel_rfl) (by kernel_rfl) 120 nil9 hn0 (size9 _ _) (by kernel_rfl) (by kernel_rfl) ?_))
  change Code.wp _ _ _ _ ((w1.alloc (.cells nil9 120)).setRow w1.heap.size (gvV bl w.heap.size))
  generalize (w1.alloc (.cells nil9 120)).setRow w1.heap.size (gvV bl w.heap.size) = w2 at hb2 hk2 HZ2 ⊢
  clear hn0
  generalize (Program.built _ _ _).getD #[] = ar
  have hbw2 := hb1.trans (hb2.mono hb1.size)
  have hlt1 : w.heap.size + 1 < w1.heap.size := by have := HZ1.out; omega
  have hz2 := (hb2.block _ hlt1).trans n2
  have u3 : w2.cell? ⟨w.heap.size, 0, none⟩ = some (.pointer (some ⟨g, o, none⟩)) := (arr_cell ((hb2.block _ (show w.heap.size < w1.heap.size by omega)).trans n1)).trans rfl
  obtain ⟨a0, a1, a2, a3, a4⟩ := HN.out w2 hbw2
  have hlt2 : w.heap.size + 1 < w2.heap.size := by have := HZ2.out; omega
  have HLT1 := Lib.hid hlt1
  have HLT2 := Lib.hid hlt2
  clear n1 n2 hlt1 hlt2
  have t5 : w2.cell? ⟨w1.heap.size, 8, none⟩ = some (.func (Fn.func 110) #[] #[]) := (arr_cell hk2).trans rfl
  rw [hk] at a0
  have hrs := leaf_some
  have HNW := Lib.hid (hz2 : _)
  have cL := lnil_any (F := fun g => F g ∧ g ≠ w.heap.size + 1) (W := w2)
  have HK := Lib.hid hk
  clear hk a1 a2 a3 a4 hk2
  go_wp2_with (first
    | (go_at_call 110; refine cL.mono ?_; rintro e w5 ⟨y, yv, ev, rfl, hy5, hb5, hc5⟩; obtain ⟨p5, c5, rfl⟩ := hy5.kids.slice; have hn5 := (hb5.block _ HLT2.out).trans HNW.out; have HC5 := Lib.hid hc5; clear hc5)
    | (refine wpList_store_row rfl 29 _ _ rfl (w.heap.size + 1) (cells5 y (.slice p5 y.l.length c5)) (by kernel_rfl) (by kernel_rfl) 29 (cells5 zeroT (.slice none 0 0)) hn5 (size28 _ _) (by kernel_rfl) (by kernel_rfl) ?_))
  have hr9 := setRow_heap' (cells := cells5 y (.slice p5 y.l.length c5)) hn5
  have hB9 := below_setRow (g := w.heap.size + 1) (cells := cells5 y (.slice p5 y.l.length c5)) (hbw2.trans (hb5.mono hbw2.size)) (by omega)
  have hy9 := hy5.move (P' := F) (w' := w5.setRow (w.heap.size + 1) (cells5 y (.slice p5 y.l.length c5))) (fun g hg _ => setRow_ne hg.2) (fun g hg _ => hg.1)
  refine bodyPost_ret (v := .tuple #[.agg (cells5 y (.slice p5 y.l.length c5)), ev]) (results_term Tryz.results105 _ _ _ _ _ rfl hr9) rfl ⟨y, _, ev, rfl, hy9, hB9, ?_⟩
  rw [HG.out]
  rcases HC5.out with h | ⟨⟨k, hj⟩, h⟩
  · exact .inl h
  · exact .inr ⟨⟨k, hj.setRow hn5⟩, h⟩


set_option maxHeartbeats 16000000 in
set_option maxRecDepth 100000 in
theorem gparts_any {l : List Bd} {x : Tr} {F : Nat → Prop} {w : World} {bl bof g o : Nat} {sv v : Value} (hL : Letters w) (hF : ∀ k, w.heap.size ≤ k → F k) (hn : NodeAt w g o x sv) (hx : TrV F w x sv) (hbl : w.cell? ⟨bl, 0, none⟩ = some v) (hl : Binds F w v l) (hof : w.cell? ⟨bof, 0, none⟩ = some (.func (Fn.func 105) #[] #[.pointer (some ⟨bl, 0, none⟩), .pointer (some ⟨bof, 0, none⟩)])) (hg : ∀ y ∈ x.l, y.grd = true) (hkd : x.k = 10 ∨ (x.k = 9 ∧ x.l.length = 2) ∨ (x.k = 11 ∧ arS x.s = true ∧ x.l.length = 2)) (hm : gmayB l = true) (hnn : x.nn ≤ 1048576) (ih : ∀ y ∈ x.l, GvSays l y) :
    Calls Tryz.prog 105 #[.pointer (some ⟨g, o, none⟩), .pointer (some ⟨bl, 0, none⟩), .pointer (some ⟨bof, 0, none⟩)] w (GvPost F (x.gval l) w) := by
  obtain ⟨p1, c1, rfl⟩ := hx.kids.slice
  obtain ⟨pl, cl, rfl⟩ := hl.slice
  obtain ⟨i0, hi, hi0, hi1, hi2⟩ := info_parts infoTerm
  obtain ⟨n1, n2, hb1, hz1'⟩ := two_new w (.cells #[.pointer (some ⟨g, o, none⟩)] 80) (.cells (cells5 zeroT (.slice none 0 0)) 29)
  have HZ1 := Lib.hid hz1'
  have HF := Lib.hid hF
  have HN := Lib.hid (fun W (hb : Below w.heap.size w W) => hn.keep (hb.block _ hn.lt))
  have HX := Lib.hid (hx.mono (P' := fun g => F g ∧ g < w.heap.size) fun g hg h => ⟨hg, h⟩)
  have HB := Lib.hid (hl.mono (F' := fun g => F g ∧ g < w.heap.size) fun g hg h => ⟨hg, h⟩)
  have HL := Lib.hid hL
  have HC := Lib.hid (fun W (hb : Below w.heap.size w W) => (hb.cell (p := ⟨bl, 0, none⟩) (cell_block hbl)).trans hbl)
  have HO := Lib.hid (fun W (hb : Below w.heap.size w W) => (hb.cell (p := ⟨bof, 0, none⟩) (cell_block hof)).trans hof)
  have IH := Lib.hid ih
  have HLEN := Lib.hid (show x.l.length ≤ 1048576 by have := nn_len x.l; rw [nn_eq] at hnn; omega)
  have HNN := Lib.hid hnn
  have HGR := Lib.hid hg
  have HKD := Lib.hid hkd
  have HM := Lib.hid hm
  have hk9 : 9 ≤ x.k ∧ x.k ≤ 11 := by rcases hkd with h | h | h <;> omega
  have HG := Lib.hid (show x.gval l = (Tr.gval.vals x.l l).bind fun r => gput x r by rw [gval_eq, if_neg (by omega), if_neg (by omega), if_neg (by omega), if_neg (by omega)])
  have d9 : decide (x.k < 9) = false := decide_eq_false (by omega)
  have hwk : IntKind.i64.wrap x.k = x.k := by rw [IntKind.wrap_i64]; omega
  clear hF hn hx hl hL hbl hz1' hof ih hnn hg hkd hm
  go_enter Tryz.func105, Tryz.ntmps105
  go_upto_region 1 with fail
  change Code.wp _ _ _ _ ((w.alloc (.cells #[.pointer (some ⟨g, o, none⟩)] 80)).alloc (.cells (cells5 zeroT (.slice none 0 0)) 29))
  generalize (w.alloc (.cells #[.pointer (some ⟨g, o, none⟩)] 80)).alloc (.cells (cells5 zeroT (.slice none 0 0)) 29) = w1 at n1 n2 hb1 HZ1 ⊢
  have hn0 : (w1.alloc (.cells nil9 120)).heap[w1.heap.size]? = some (.cells nil9 120 (0, 0)) := heap_new w1 _
  have hb2 := below_setRow (g := w1.heap.size) (cells := gvV bl w.heap.size) (alloc_below w1 (.cells nil9 120)) (Nat.le_refl _)
  have hk2 := setRow_heap' (cells := gvV bl w.heap.size) hn0
  have hz2' : ((w1.alloc (.cells nil9 120)).setRow w1.heap.size (gvV bl w.heap.size)).heap.size = w1.heap.size + 1 := by simp [World.setRow]
  have HZ2 := Lib.hid hz2'
  clear hz2'
  go_upto_region 2 with (first
    | (refine wpList_build rfl 120 _ rfl (by kernel_rfl) ?_)
    | (refine wpList_store_row rfl 120 _ _ rfl w1.heap.size (gvV bl w.heap.size) (by kernel_rfl) (by kernel_rfl) 120 nil9 hn0 (size9 _ _) (by kernel_rfl) (by kernel_rfl) ?_))
  change Code.wp _ _ _ _ ((w1.alloc (.cells nil9 120)).setRow w1.heap.size (gvV bl w.heap.size))
  generalize (w1.alloc (.cells nil9 120)).setRow w1.heap.size (gvV bl w.heap.size) = w2 at hb2 hk2 HZ2 ⊢
  clear hn0
  generalize (Program.built _ _ _).getD #[] = ar
  have hbw2 := hb1.trans (hb2.mono hb1.size)
  have hlt1 : w.heap.size + 1 < w1.heap.size := by have := HZ1.out; omega
  have hz2 := (hb2.block _ hlt1).trans n2
  have u3 : w2.cell? ⟨w.heap.size, 0, none⟩ = some (.pointer (some ⟨g, o, none⟩)) := (arr_cell ((hb2.block _ (show w.heap.size < w1.heap.size by omega)).trans n1)).trans rfl
  obtain ⟨a0, a1, a2, a3, a4⟩ := HN.out w2 hbw2
  have hlt2 : w.heap.size + 1 < w2.heap.size := by have := HZ2.out; omega
  have HLT1 := Lib.hid hlt1
  have HLT2 := Lib.hid hlt2
  clear n1 n2 hlt1 hlt2
  have HZ2' := Lib.hid hz2
  clear a1 a2 a3 hk2 hz2
  go_wp2_with fail
  go_loopw [7, 46] (fun s i wr => GvRel F l x w.heap.size w1.heap.size w2 s i wr) (fun _ i _ => x.l.length - (intOf i).toNat)
  case atStart => exact ⟨0, Nat.zero_le _, rfl, [], TRow.nil .., Below.refl _ _, gst_start x l, rfl⟩
  case round =>
    obtain ⟨k, hk, rfl, L, hrow, hbr, hst, hLk⟩ := hrel
    obtain ⟨q, cp, rfl⟩ := hrow.slice
    have hB := hbw2.trans (hbr.mono hbw2.size)
    have hzr := (hbr.block _ HLT2.out).trans HZ2'.out
    have v3 := (hbr.cell (p := ⟨w.heap.size, 0, none⟩) (show w.heap.size < w2.heap.size by have := HLT2.out; omega)).trans u3
    have HST := Lib.hid hst
    have HROW := Lib.hid hrow
    have HLK := Lib.hid hLk
    have HZR := Lib.hid hzr
    have HSR := Lib.hid (show w.heap.size + 1 < wr.heap.size by have := HLT2.out; have := hbr.size; omega)
    clear hst hrow hLk hzr
    by_cases hlt : k < x.l.length
    · obtain ⟨g1, o1, qv, rfl, _, hnode, hkid⟩ := (HX.out.below hB).kids.at hlt
      have hv4 := (HN.out wr hB).l
      have hvo := HO.out wr hB
      have hk0 : (0 : Int) ≤ (k : Int) := by omega
      have hk1 : (k : Int) < (x.l.length : Int) := by omega
      have hmv : ∀ V : World, Below wr.heap.size wr V → V.cell? ⟨bof, 0, none⟩ = some (.func (Fn.func 105) #[] #[.pointer (some ⟨bl, 0, none⟩), .pointer (some ⟨bof, 0, none⟩)]) ∧ V.cell? ⟨w.heap.size, 0, none⟩ = some (.pointer (some ⟨g, o, none⟩)) ∧ V.cell? ⟨g, o + 4, none⟩ = some (.slice (some ⟨g1, o1, none⟩) x.l.length c1) := fun V hv =>
        ⟨(hv.cell (p := ⟨bof, 0, none⟩) (cell_block hvo)).trans hvo, (hv.cell (p := ⟨w.heap.size, 0, none⟩) (cell_block v3)).trans v3, (hv.cell (p := ⟨g, o + 4, none⟩) (cell_block hv4)).trans hv4⟩
      have hd : Below wr.heap.size wr wr.drew := below_drewN (Below.refl _ _) 1
      have hda : Below wr.heap.size wr (wr.alloc (.cells (cells5 zeroT (.slice none 0 0)) 29)).drew := below_drewN (alloc_below wr _) 1
      have hna : (wr.alloc (.cells (cells5 zeroT (.slice none 0 0)) 29)).drew.heap[wr.heap.size]? = some (.cells (cells5 zeroT (.slice none 0 0)) 29 (0, 0)) := heap_new wr _
      have hza : wr.heap.size < (wr.alloc (.cells (cells5 zeroT (.slice none 0 0)) 29)).drew.heap.size := (Array.getElem?_eq_some_iff.1 hna).1
      have hS0 := hmv wr (Below.refl _ _)
      have hSa := hmv _ hda
      have hkn := nn_kid (List.getElem_mem hlt)
      have cI := fun (F' : Nat → Prop) (V : World) (hv : Below wr.heap.size wr V) (hF' : ∀ g, V.heap.size ≤ g → F' g) (hF2 : ∀ g, F g ∧ g < w.heap.size → F' g) =>
        IH.out x.l[k] (List.getElem_mem hlt) F' V bl bof g1 (o1 + k * 5) qv (.slice pl l.length cl) (HL.out.under (hB.trans (hv.mono hB.size))) hF' (hnode.keep (hv.block _ hnode.lt)) ((hkid.below hv).mono fun g hg _ => hF2 g hg) (HC.out V (hB.trans (hv.mono hB.size))) ((HB.out.under (hB.trans (hv.mono hB.size))).mono fun g hg _ => hF2 g hg) (hmv V hv).1 (HGR.out _ (List.getElem_mem hlt)) HM.out (by have := HNN.out; omega)
      have cQ := cI (fun g => (F g ∧ g < w.heap.size) ∨ wr.heap.size ≤ g) wr.drew hd (fun g hg => .inr hg) (fun g hg => .inl hg)
      have cQa := cI (fun g => ((F g ∧ g < w.heap.size) ∨ wr.heap.size ≤ g) ∧ g ≠ wr.heap.size) (wr.alloc (.cells (cells5 zeroT (.slice none 0 0)) 29)).drew hda (fun g hg => ⟨.inr (by omega), by omega⟩) (fun g hg => ⟨.inl hg, by have := HSR.out; omega⟩)
      obtain ⟨oo, hoo⟩ : ∃ oo, x.l[k].gval l = oo := ⟨_, rfl⟩
      have HOO := Lib.hid hoo
      rw [hoo] at cQ cQa
      clear hnode hkid hv4 hvo hoo cI hkn
      go_upto_region 8 with fail
      go_cut [9, 10] (fun s9 s10 wx => GvMid F w.heap.size wr oo s9 s10 wx)
      case first =>
        refine wp_region_held_drew (S := fun V => V.cell? ⟨bof, 0, none⟩ = some (.func (Fn.func 105) #[] #[.pointer (some ⟨bl, 0, none⟩), .pointer (some ⟨bof, 0, none⟩)]) ∧ V.cell? ⟨w.heap.size, 0, none⟩ = some (.pointer (some ⟨g, o, none⟩)) ∧ V.cell? ⟨g, o + 4, none⟩ = some (.slice (some ⟨g1, o1, none⟩) x.l.length c1)) (by kernel_rfl) ?_ (fun hHeld => ?_)
        · (try dsimp only); (first | exact hS0)
        refine wpAnyH_take (i := 0) (v := ?_) rfl (by kernel_rfl) (by kernel_rfl) (by kernel_rfl) (fun _ _ _ h => h) (Or.inl ⟨by rfl, ?_⟩) (by assumption) ?_
        rotate_left 1
        (intro w hSw; (try dsimp only at hSw); go_simp; try with_reducible rfl)
        (try simp only [List.getElem_toArray, List.getElem_cons_zero, Act.put, List.setIfInBounds_toArray, List.set_cons_zero, List.set_cons_succ])
        refine wpAnyH_take (i := 1) (v := ?_) rfl (by kernel_rfl) (by kernel_rfl) (by kernel_rfl) (fun _ _ _ h => h) (Or.inl ⟨by rfl, ?_⟩) (by assumption) ?_
        rotate_left 1
        (intro w hSw; (try dsimp only at hSw); go_simp; try with_reducible rfl)
        (try simp only [List.getElem_toArray, List.getElem_cons_succ, List.getElem_cons_zero, Act.put, List.setIfInBounds_toArray, List.set_cons_zero, List.set_cons_succ])
        refine wpAnyH_take (i := 2) (v := ?_) rfl (by kernel_rfl) (by kernel_rfl) (by kernel_rfl) (fun _ _ _ h => h) (Or.inl ⟨by rfl, ?_⟩) (by assumption) ?_
        rotate_left 1
        (intro w hSw; (try dsimp only at hSw); go_simp; try with_reducible rfl)
        (try simp only [List.getElem_toArray, List.getElem_cons_succ, List.getElem_cons_zero, Act.put, List.setIfInBounds_toArray, List.set_cons_zero, List.set_cons_succ])
        refine wpAnyH_take (i := 3) (v := ?_) rfl (by kernel_rfl) (by kernel_rfl) (by kernel_rfl) (fun _ _ _ h => h) (Or.inl ⟨by rfl, ?_⟩) (by assumption) ?_
        rotate_left 1
        (intro w hSw; (try dsimp only at hSw); go_simp; try with_reducible rfl)
        (try simp only [List.getElem_toArray, List.getElem_cons_succ, List.getElem_cons_zero, Act.put, List.setIfInBounds_toArray, List.set_cons_zero, List.set_cons_succ])
        refine wpAnyH_take (i := 4) (v := ?_) rfl (by kernel_rfl) (by kernel_rfl) (by kernel_rfl) (fun _ _ _ h => h) (Or.inl ⟨by rfl, ?_⟩) (by assumption) ?_
        rotate_left 1
        (intro w hSw; (try dsimp only at hSw); go_simp; try with_reducible rfl)
        (try simp only [List.getElem_toArray, List.getElem_cons_succ, List.getElem_cons_zero, Act.put, List.setIfInBounds_toArray, List.set_cons_zero, List.set_cons_succ])
        refine wpAnyH_take (i := 5) (v := ?_) rfl (by kernel_rfl) (by kernel_rfl) (by kernel_rfl) (fun _ _ _ h => h) (Or.inl ⟨by rfl, ?_⟩) (by assumption) ?_
        rotate_left 1
        (intro w hSw; (try dsimp only at hSw); go_simp; try with_reducible rfl)
        (try simp only [List.getElem_toArray, List.getElem_cons_succ, List.getElem_cons_zero, Act.put, List.setIfInBounds_toArray, List.set_cons_zero, List.set_cons_succ])
        refine wpAnyH_take (i := 6) (v := ?_) rfl (by kernel_rfl) (by kernel_rfl) (by kernel_rfl) (fun _ _ _ h => h) (Or.inl ⟨by rfl, ?_⟩) (by assumption) ?_
        rotate_left 1
        (intro w hSw; (try dsimp only at hSw); go_simp; try with_reducible rfl)
        (try simp only [List.getElem_toArray, List.getElem_cons_succ, List.getElem_cons_zero, Act.put, List.setIfInBounds_toArray, List.set_cons_zero, List.set_cons_succ])
        refine wpAnyH_ready (rs := [7,11]) (by kernel_rfl) (by simp) ?_
        refine (AllReadyH.cons rfl (fun K hK => ?_) (AllReadyH.cons rfl (fun K hK => ?_) AllReadyH.nil))
        · go_simp
          go_wp2_with (go_at_call 105; refine cQ.mono ?_; rintro e w5 ⟨y, yv, ev, rfl, hy5, hb5, hc5⟩; obtain ⟨p5, c5, rfl⟩ := hy5.kids.slice; have hB5 := hd.trans (hb5.mono hd.size); have hS2 := hmv _ hB5; have hn5 := heap_new w5 (.cells (cells5 zeroT (.slice none 0 0)) 29); have hb5a := hB5.trans ((alloc_below w5 (.cells (cells5 zeroT (.slice none 0 0)) 29)).mono hB5.size); have hSb := hmv _ hb5a; have hB6 := below_setRow (g := w5.heap.size) (cells := cells5 y (.slice p5 y.l.length c5)) hb5a hB5.size; have hS3 := hmv _ hB6; have HC5 := Lib.hid hc5; clear hc5)
          refine hK.out _ _ ?_ (fun hHeld => ?_)
          · (try dsimp only); (first | exact hS2 | exact hSb | exact hS3)
          clear hK K
          (try simp only [List.getElem_toArray, List.getElem_cons_succ, List.getElem_cons_zero, Act.put, List.setIfInBounds_toArray, List.set_cons_zero, List.set_cons_succ])
          refine wpAnyH_take (i := 8) (v := ?_) rfl (by kernel_rfl) (by kernel_rfl) (by kernel_rfl) (fun _ _ _ h => h) (Or.inl ⟨by rfl, ?_⟩) (by assumption) ?_
          rotate_left 1
          (intro w hSw; (try dsimp only at hSw); go_simp; try with_reducible rfl)
          (try simp only [List.getElem_toArray, List.getElem_cons_succ, List.getElem_cons_zero, Act.put, List.setIfInBounds_toArray, List.set_cons_zero, List.set_cons_succ])
          refine wpAnyH_take (i := 9) (v := ?_) rfl (by kernel_rfl) (by kernel_rfl) (by kernel_rfl) (fun _ _ _ h => h) (Or.inl ⟨by rfl, ?_⟩) (by assumption) ?_
          rotate_left 1
          (intro w hSw; (try dsimp only at hSw); go_simp; try with_reducible rfl)
          (try simp only [List.getElem_toArray, List.getElem_cons_succ, List.getElem_cons_zero, Act.put, List.setIfInBounds_toArray, List.set_cons_zero, List.set_cons_succ])
          refine wpAnyH_take (i := 10) (v := ?_) rfl (by kernel_rfl) (by kernel_rfl) (by kernel_rfl) (fun _ _ _ h => h) (Or.inl ⟨by rfl, ?_⟩) (by assumption) ?_
          rotate_left 1
          (intro w hSw; (try dsimp only at hSw); go_simp; try with_reducible rfl)
          (try simp only [List.getElem_toArray, List.getElem_cons_succ, List.getElem_cons_zero, Act.put, List.setIfInBounds_toArray, List.set_cons_zero, List.set_cons_succ])
          refine wpAnyH_ready (rs := [11]) (by kernel_rfl) (by simp) ?_
          refine AllReadyH.cons rfl (fun K hK => ?_) AllReadyH.nil
          go_simp
          refine hK.out _ _ ?_ (fun hHeld => ?_)
          · (try dsimp only); (first | exact hS2 | exact hSb | exact hS3)
          clear hK K
          (try simp only [List.getElem_toArray, List.getElem_cons_succ, List.getElem_cons_zero, Act.put, List.setIfInBounds_toArray, List.set_cons_zero, List.set_cons_succ])
          refine wpAnyH_ready (rs := [12]) (by kernel_rfl) (by simp) ?_
          refine AllReadyH.cons rfl (fun K hK => ?_) AllReadyH.nil
          (refine step_store_row rfl 29 _ _ rfl w5.heap.size (cells5 y (.slice p5 y.l.length c5)) (by kernel_rfl) (by kernel_rfl) 29 (cells5 zeroT (.slice none 0 0)) hn5 (size28 _ _) (by kernel_rfl) (by kernel_rfl) ?_)
          refine hK.out _ _ ?_ (fun hHeld => ?_)
          · (try dsimp only); (first | exact hS2 | exact hSb | exact hS3)
          clear hK K
          (try simp only [List.getElem_toArray, List.getElem_cons_succ, List.getElem_cons_zero, Act.put])
          refine wpAnyH_take (i := 13) (v := ?_) rfl (by kernel_rfl) (by kernel_rfl) (by kernel_rfl) (fun _ _ _ h => h) (Or.inl ⟨by rfl, ?_⟩) (by assumption) ?_
          rotate_left 1
          (intro w hSw; (try dsimp only at hSw); go_simp; try with_reducible rfl)
          (try simp only [List.getElem_toArray, List.getElem_cons_succ, List.getElem_cons_zero, Act.put, List.setIfInBounds_toArray, List.set_cons_zero, List.set_cons_succ])
          refine wpAnyH_done (by kernel_rfl) ?_ _
          go_wp2_with fail
          go_meet
          refine ⟨w5.heap.size, y, _, rfl, setRow_heap' hn5, ?_, hB6, ?_⟩
          · exact ((hy5.mono (P' := fun g => ((F g ∧ g < w.heap.size) ∨ wr.heap.size ≤ g) ∧ g < w5.heap.size) fun g hg hl => ⟨hg, hl⟩).below (alloc_below w5 _)).move (fun g hg _ => setRow_ne (by omega)) (fun g hg _ => hg.1)
          · rcases HC5.out with h | ⟨⟨k, hj⟩, h⟩
            · exact .inl h
            · exact .inr ⟨⟨k, (hj.under (alloc_below w5 _)).setRow hn5⟩, h⟩
        · go_simp
          refine hK.out _ _ ?_ (fun hHeld => ?_)
          · (try dsimp only); (first | exact hSa | exact hS2 | exact hS3)
          clear hK K
          (try simp only [List.getElem_toArray, List.getElem_cons_succ, List.getElem_cons_zero, Act.put, List.setIfInBounds_toArray, List.set_cons_zero, List.set_cons_succ])
          refine wpAnyH_ready (rs := [7]) (by kernel_rfl) (by simp) ?_
          refine AllReadyH.cons rfl (fun K hK => ?_) AllReadyH.nil
          go_simp
          go_wp2_with (go_at_call 105; refine cQa.mono ?_; rintro e w5 ⟨y, yv, ev, rfl, hy5, hb5, hc5⟩; obtain ⟨p5, c5, rfl⟩ := hy5.kids.slice; have hB5 := hda.trans (hb5.mono hda.size); have hS2 := hmv _ hB5; have hn5 := (hb5.block _ hza).trans hna; have hB6 := below_setRow (g := wr.heap.size) (cells := cells5 y (.slice p5 y.l.length c5)) hB5 (Nat.le_refl _); have hS3 := hmv _ hB6; have HC5 := Lib.hid hc5; clear hc5)
          refine hK.out _ _ ?_ (fun hHeld => ?_)
          · (try dsimp only); (first | exact hSa | exact hS2 | exact hS3)
          clear hK K
          (try simp only [List.getElem_toArray, List.getElem_cons_succ, List.getElem_cons_zero, Act.put, List.setIfInBounds_toArray, List.set_cons_zero, List.set_cons_succ])
          refine wpAnyH_take (i := 8) (v := ?_) rfl (by kernel_rfl) (by kernel_rfl) (by kernel_rfl) (fun _ _ _ h => h) (Or.inl ⟨by rfl, ?_⟩) (by assumption) ?_
          rotate_left 1
          (intro w hSw; (try dsimp only at hSw); go_simp; try with_reducible rfl)
          (try simp only [List.getElem_toArray, List.getElem_cons_succ, List.getElem_cons_zero, Act.put, List.setIfInBounds_toArray, List.set_cons_zero, List.set_cons_succ])
          refine wpAnyH_take (i := 9) (v := ?_) rfl (by kernel_rfl) (by kernel_rfl) (by kernel_rfl) (fun _ _ _ h => h) (Or.inl ⟨by rfl, ?_⟩) (by assumption) ?_
          rotate_left 1
          (intro w hSw; (try dsimp only at hSw); go_simp; try with_reducible rfl)
          (try simp only [List.getElem_toArray, List.getElem_cons_succ, List.getElem_cons_zero, Act.put, List.setIfInBounds_toArray, List.set_cons_zero, List.set_cons_succ])
          refine wpAnyH_take (i := 10) (v := ?_) rfl (by kernel_rfl) (by kernel_rfl) (by kernel_rfl) (fun _ _ _ h => h) (Or.inl ⟨by rfl, ?_⟩) (by assumption) ?_
          rotate_left 1
          (intro w hSw; (try dsimp only at hSw); go_simp; try with_reducible rfl)
          (try simp only [List.getElem_toArray, List.getElem_cons_succ, List.getElem_cons_zero, Act.put, List.setIfInBounds_toArray, List.set_cons_zero, List.set_cons_succ])
          refine wpAnyH_ready (rs := [12]) (by kernel_rfl) (by simp) ?_
          refine AllReadyH.cons rfl (fun K hK => ?_) AllReadyH.nil
          (refine step_store_row rfl 29 _ _ rfl wr.heap.size (cells5 y (.slice p5 y.l.length c5)) (by kernel_rfl) (by kernel_rfl) 29 (cells5 zeroT (.slice none 0 0)) hn5 (size28 _ _) (by kernel_rfl) (by kernel_rfl) ?_)
          refine hK.out _ _ ?_ (fun hHeld => ?_)
          · (try dsimp only); (first | exact hSa | exact hS2 | exact hS3)
          clear hK K
          (try simp only [List.getElem_toArray, List.getElem_cons_succ, List.getElem_cons_zero, Act.put])
          refine wpAnyH_take (i := 13) (v := ?_) rfl (by kernel_rfl) (by kernel_rfl) (by kernel_rfl) (fun _ _ _ h => h) (Or.inl ⟨by rfl, ?_⟩) (by assumption) ?_
          rotate_left 1
          (intro w hSw; (try dsimp only at hSw); go_simp; try with_reducible rfl)
          (try simp only [List.getElem_toArray, List.getElem_cons_succ, List.getElem_cons_zero, Act.put, List.setIfInBounds_toArray, List.set_cons_zero, List.set_cons_succ])
          refine wpAnyH_done (by kernel_rfl) ?_ _
          go_wp2_with fail
          go_meet
          refine ⟨wr.heap.size, y, _, rfl, setRow_heap' hn5, ?_, hB6, ?_⟩
          · exact hy5.move (fun g hg _ => setRow_ne hg.2) (fun g hg _ => hg.1)
          · rcases HC5.out with h | ⟨⟨k, hj⟩, h⟩
            · exact .inl h
            · exact .inr ⟨⟨k, hj.setRow hn5⟩, h⟩
      case rest =>
      obtain ⟨b9, y, yv, rfl, hn9, hy9, hB9, hc9⟩ := hcut
      obtain ⟨p9, c9, rfl⟩ := hy9.kids.slice
      have hBc := hB.trans (hB9.mono hB.size)
      have hown := HROW.out.blk
      have hrow9 := HROW.out.below hB9
      have hnz := (hB9.block _ HSR.out).trans HZR.out
      clear hmv hd hda hna hza hS0 hSa cQ cQa
      rcases hc9 with ⟨rfl, hv9⟩ | ⟨⟨kk, hj9⟩, hv9⟩
      · obtain ⟨d0, d1, d2, d3, d4⟩ := node_heap (x := y) hn9
        simp only [Nat.zero_add] at d1 d2 d3 d4
        have hb6a := alloc_below wc (.cells (tcells (y, .slice p9 y.l.length c9)).toArray 29)
        have hrow7 := hrow9.below hb6a
        have hown7 := hrow7.own
        have HROW7 := Lib.hid hrow7
        have hlenL : L.length ≤ 1048576 := by have := HLK.out; have := HLEN.out; omega
        have hbs : w1.heap.size + 1 ≤ (wc.alloc (.cells (tcells (y, .slice p9 y.l.length c9)).toArray 29)).heap.size := by have := HZ2.out; have := hbr.size; have := hB9.size; simp; omega
        have HY9 := Lib.hid hy9
        have HB9 := Lib.hid hB9
        have HOWN := Lib.hid hown
        have HV9 := Lib.hid (HOO.out.trans hv9)
        have hxl := HLEN.out
        clear hrow7 hrow9 hn9 hy9 hown hv9 hnz
        go_wp2_with (at_builtin; refine wpList_append_own2 rfl (.tmp 64) (.tmp 66) 27 rfl (w1.heap.size + 1) 29 i0 _ 5 72 Tryz.underlying27 hi hi0 hi1 hi2 rfl (by decide) _ L.length (L.flatMap tcells) rfl hown7 ⟨wc.heap.size, 0, none⟩ 1 1 (tcells (y, .slice p9 y.l.length c9)) rfl rfl (cells_at_new wc (tcells (y, .slice p9 y.l.length c9)) 29) (tcells_plain (q := (y, .slice p9 y.l.length c9)) HY9.out) (by unfold maxLen; omega) (by omega) hbs ?_; intro v8 w8 hown8 hgrow8 hnil8; obtain ⟨q8, c8, rfl⟩ := row_shape hown8)
        have hyy : TrV (fun g => ((F g ∧ g < w.heap.size) ∨ w1.heap.size < g) ∧ (Value.slice q L.length cp).ownBlock ≠ some g) (wc.alloc (.cells (tcells (y, .slice p9 y.l.length c9)).toArray 29)) y (.slice p9 y.l.length c9) :=
          (HY9.out.below hb6a).mono fun g hg _ => ⟨hg.elim .inl fun h => .inr (by have := HZ2.out; have := hbr.size; omega), fun e => by have := HOWN.out _ e; have := HLT1.out; rcases hg with h | h <;> omega⟩
        have hrow8 := HROW7.out.push hyy hown8 hgrow8 hnil8
        have hB8 : Below w2.heap.size w2 w8 := ((hbr.trans (HB9.out.mono hbr.size)).trans (hb6a.mono (by have := hbr.size; have := HB9.out.size; omega))).grown hgrow8 (by have := HZ2.out; omega) (fun j hj => by have := HOWN.out _ hj; have := HZ2.out; omega)
        have hst9 := gst_next HST.out hlt HV9.out
        go_roundw
        case rel => exact ⟨k + 1, hlt, by go_num, L ++ [(y, .slice p9 y.l.length c9)], hrow8, hB8, by rw [List.map_append]; exact hst9, by rw [List.length_append, HLK.out]; rfl⟩
        case measure => simp [intOf]; omega
      · have HFIN := Lib.hid (show x.gval l = none by rw [HG.out, gst_none HST.out hlt (HOO.out.trans hv9)]; rfl)
        have hj9' := hj9
        obtain ⟨bj, gj, cj, rfl, _, _, _⟩ := hj9'
        have HJ9 := Lib.hid hj9
        clear hj9 hy9 hn9 hrow9 hown hv9
        go_wp2_with (refine wpList_store_row rfl 29 _ _ rfl (w.heap.size + 1) (cells5 zeroT (.slice none 0 0)) (by kernel_rfl) (by kernel_rfl) 29 (cells5 zeroT (.slice none 0 0)) hnz (size28 _ _) (by kernel_rfl) (by kernel_rfl) ?_)
        have hr9 := setRow_heap' (cells := cells5 zeroT (.slice none 0 0)) hnz
        have hB9 := below_setRow (g := w.heap.size + 1) (cells := cells5 zeroT (.slice none 0 0)) hBc (by omega)
        exact bodyPost_ret (v := .tuple #[.agg (cells5 zeroT (.slice none 0 0)), _]) (results_term Tryz.results105 _ _ _ _ _ rfl hr9) rfl ⟨zeroT, _, _, rfl, zero_trv _ _, hB9, .inr ⟨⟨kk, HJ9.out.setRow hnz⟩, HFIN.out⟩⟩
    · have HN2 := Lib.hid (gst_end HST.out (by omega))
      have hLlen : L.length = x.l.length := by have := HLK.out; omega
      have HLL := Lib.hid hLlen
      have hL0 : L.length ≤ BL := by have := HLEN.out; have := HLK.out; unfold BL; omega
      have HIN := Lib.hid (show ∀ z ∈ L.map (·.1), z.k = 0 → mayI z.n = true from fun z hz hk0 => by
        obtain ⟨x', hx', h'⟩ := (vals_get HN2.out).2 z hz
        exact gval_int HM.out (HGR.out x' hx') h' hk0)
      have hrw : ∀ V : World, Below wr.heap.size wr V → Kids (fun g => (F g ∧ g ≠ w.heap.size + 1) ∧ g ≠ wr.heap.size) V (.slice q L.length cp) (L.map (·.1)) := fun V hv =>
        ((kids_row (F := fun g => F g ∧ (g < w.heap.size ∨ w1.heap.size < g)) HROW.out.own (fun k hk => ⟨HF.out k (by have := HLT1.out; omega), .inr (by omega)⟩) (fun q hq => (HROW.out.at_ q hq).mono fun g hg _ => hg.1.elim (fun h => ⟨h.1, .inl h.2⟩) (fun h => ⟨HF.out g (by have := HLT1.out; omega), .inr h⟩)) hL0).mono
          fun g hg hl => ⟨⟨hg.1, by have := HLT1.out; omega⟩, by omega⟩).under hv
      have hLr : (L.map (·.1)).length = x.l.length := by simp [hLlen]
      have hna := heap_new wr (.cells (cells5 zeroT (.slice none 0 0)) 29)
      have hba := alloc_below wr (.cells (cells5 zeroT (.slice none 0 0)) 29)
      have HRW := Lib.hid hrw
      have HLR := Lib.hid hLr
      clear hrw u3 a0 a4 hLr hLlen
      generalize L.map (·.1) = r at HN2 HIN HRW HLR
      go_upto_region 16 with fail
      change Code.wp _ _ _ _ (wr.alloc (.cells (cells5 zeroT (.slice none 0 0)) 29))
      generalize wr.alloc (.cells (cells5 zeroT (.slice none 0 0)) 29) = w3 at hna hba ⊢
      have hBa := hB.trans (hba.mono hB.size)
      have v0 := (HN.out _ hBa).k
      have v3a := (hba.cell (p := ⟨w.heap.size, 0, none⟩) (cell_block v3)).trans v3
      have hzr := (hba.block _ HSR.out).trans HZR.out
      have hz3 := (Array.getElem?_eq_some_iff.1 hna).1
      have hFz : ∀ g, w3.heap.size ≤ g → (F g ∧ g ≠ w.heap.size + 1) ∧ g ≠ wr.heap.size := fun g hg => ⟨⟨HF.out g (by have := hBa.size; omega), by have := hBa.size; have := HSR.out; omega⟩, by omega⟩
      rcases HKD.out with hk | ⟨hk, hx2⟩ | ⟨hk, har, hx2⟩
      · rw [hk] at v0
        have HK := Lib.hid hk
        have cT := tuple_any (HL.out.under hBa) hFz (HRW.out w3 hba) (by have := HLR.out; have := HLEN.out; omega)
        have HHn4 := Lib.hid hzr
        clear hk d9 hwk hk9
        go_upto_region 22 with (first
          | (go_at_call 111; go_loud (refine cT.mono ?_; rintro e w5 ⟨y, yv, er, rfl, hy5, hb5, hq⟩; obtain ⟨p5, c5, rfl⟩ := hy5.kids.slice; have hn5 := (hb5.block _ hz3).trans hna; have hB5 := hBa.trans (hb5.mono hBa.size); have hn45 := (hb5.block _ (Array.getElem?_eq_some_iff.1 hzr).1).trans hzr; have HQ := Lib.hid hq; clear hq))
          | (refine wpList_store_row rfl 29 _ _ rfl wr.heap.size (cells5 y (.slice p5 y.l.length c5)) (by kernel_rfl) (by kernel_rfl) 29 (cells5 zeroT (.slice none 0 0)) hn5 (size28 _ _) (by kernel_rfl) (by kernel_rfl) ?_))
        have hn11 := setRow_heap' (cells := cells5 y (.slice p5 y.l.length c5)) hn5
        have hn4 : (w5.setRow wr.heap.size (cells5 y (.slice p5 y.l.length c5))).heap[w.heap.size + 1]? = some (.cells (cells5 zeroT (.slice none 0 0)) 29 (0, 0)) := (setRow_ne (by have := HSR.out; omega)).trans hn45
        have hBW := below_setRow (g := wr.heap.size) (cells := cells5 y (.slice p5 y.l.length c5)) hB5 (by have := HSR.out; omega)
        have hy6 := hy5.move (P' := fun g => F g ∧ g ≠ w.heap.size + 1) (w' := w5.setRow wr.heap.size (cells5 y (.slice p5 y.l.length c5))) (fun g hg _ => setRow_ne hg.2) (fun g hg _ => hg.1)
        generalize w5.setRow wr.heap.size (cells5 y (.slice p5 y.l.length c5)) = w6 at hn11 hn4 hBW hy6 ⊢
        have HYT := Lib.hid (hy6.move (P' := F) (w' := w6.setRow (w.heap.size + 1) (cells5 y (.slice p5 y.l.length c5))) (fun g hg _ => setRow_ne hg.2) (fun g hg _ => hg.1))
        clear hy5 hy6
        by_cases her : er = 0
        · have HFIN := Lib.hid (show x.gval l = some y by rw [HG.out, HN2.out]; show gput x _ = _; unfold gput; rw [if_pos HK.out]; rw [← HQ.out, her]; exact if_pos rfl)
          subst her
          obtain ⟨d0, d1, d2, d3, d4⟩ := node_heap (x := y) hn11
          simp only [Nat.zero_add] at d1 d2 d3 d4
          go_wp2_with (refine wpList_store_row rfl 29 _ _ rfl (w.heap.size + 1) (cells5 y (.slice p5 y.l.length c5)) (by kernel_rfl) (by kernel_rfl) 29 (cells5 zeroT (.slice none 0 0)) hn4 (size28 _ _) (by kernel_rfl) (by kernel_rfl) ?_)
          have hr9 := setRow_heap' (cells := cells5 y (.slice p5 y.l.length c5)) hn4
          have hB9 := below_setRow (g := w.heap.size + 1) (cells := cells5 y (.slice p5 y.l.length c5)) hBW (by omega)
          exact bodyPost_ret (v := .tuple #[.agg (cells5 y (.slice p5 y.l.length c5)), .nilIface]) (results_term Tryz.results105 _ _ _ _ _ rfl hr9) rfl ⟨y, _, .nilIface, rfl, HYT.out, hB9, .inl ⟨rfl, HFIN.out⟩⟩
        · have HFIN := Lib.hid (show x.gval l = none by rw [HG.out, HN2.out]; show gput x _ = _; unfold gput; rw [if_pos HK.out]; rw [← HQ.out]; exact if_neg her)
          have hne : (er != 0) = true := by simpa using her
          clear her
          go_wp2_with (first
            | (go_at_call 107; refine (none_any _ er).mono ?_; rintro e w8 ⟨ev, rfl, hj8, hb8⟩; have hn8 := (hb8.block _ (Array.getElem?_eq_some_iff.1 hn4).1).trans hn4)
            | (refine wpList_store_row rfl 29 _ _ rfl (w.heap.size + 1) (cells5 zeroT (.slice none 0 0)) (by kernel_rfl) (by kernel_rfl) 29 (cells5 zeroT (.slice none 0 0)) hn8 (size28 _ _) (by kernel_rfl) (by kernel_rfl) ?_))
          have hr9 := setRow_heap' (cells := cells5 zeroT (.slice none 0 0)) hn8
          have hB9 := below_setRow (g := w.heap.size + 1) (cells := cells5 zeroT (.slice none 0 0)) (hBW.trans (hb8.mono hBW.size)) (by omega)
          exact bodyPost_ret (v := .tuple #[.agg (cells5 zeroT (.slice none 0 0)), ev]) (results_term Tryz.results105 _ _ _ _ _ rfl hr9) rfl ⟨zeroT, _, ev, rfl, zero_trv _ _, hB9, .inr ⟨⟨_, hj8.setRow hn8⟩, HFIN.out⟩⟩
      · rw [hk] at v0
        have HK := Lib.hid hk
        obtain ⟨ya, yb, hr⟩ : ∃ ya yb, r = [ya, yb] := by
          have := HLR.out
          match r, this.trans hx2 with
          | [a, b], _ => exact ⟨a, b, rfl⟩
        subst hr
        have hab := HRW.out wr (Below.refl _ _)
        obtain ⟨g2, o2, sa, rfl, _, hca, hta⟩ := hab.at (i := 0) (by simp)
        obtain ⟨g3, o3, sb, he, _, hcb, htb⟩ := hab.at (i := 1) (by simp)
        cases he
        change NodeAt wr g2 (o2 + 0 * 5) ya sa at hca
        change NodeAt wr g2 (o2 + 1 * 5) yb sb at hcb
        change TrV _ wr ya sa at hta
        change TrV _ wr yb sb at htb
        obtain ⟨pa, ca, rfl⟩ := hta.kids.slice
        obtain ⟨pb, cb, rfl⟩ := htb.kids.slice
        simp only [Nat.zero_mul, Nat.add_zero, Nat.one_mul] at hca hcb
        have hl0 : (0 : Int) < (L.length : Int) := by have := HLL.out; omega
        have hl1 : (1 : Int) < (L.length : Int) := by have := HLL.out; omega
        have hl0n : 0 < L.length := by omega
        have hl1n : 1 < L.length := by omega
        have hlnn : ¬ L = [] := by intro e; rw [e] at hl0n; exact absurd hl0n (by decide)
        have hmv : ∀ V : World, Below wr.heap.size wr V → V.cell? ⟨g2, o2, none⟩ = some (.int .i8 ya.k) ∧ V.cell? ⟨g2, o2 + 1, none⟩ = some (.int .i64 ya.n) ∧ V.cell? ⟨g2, o2 + 2, none⟩ = some (.string ya.s) ∧ V.cell? ⟨g2, o2 + 3, none⟩ = some (.string ya.t) ∧ V.cell? ⟨g2, o2 + 4, none⟩ = some (.slice pa ya.l.length ca) ∧ V.cell? ⟨g2, o2 + 5, none⟩ = some (.int .i8 yb.k) ∧ V.cell? ⟨g2, o2 + 5 + 1, none⟩ = some (.int .i64 yb.n) ∧ V.cell? ⟨g2, o2 + 5 + 2, none⟩ = some (.string yb.s) ∧ V.cell? ⟨g2, o2 + 5 + 3, none⟩ = some (.string yb.t) ∧ V.cell? ⟨g2, o2 + 5 + 4, none⟩ = some (.slice pb yb.l.length cb) := by
          intro V hv
          obtain ⟨e0, e1, e2, e3, e4⟩ := hca.keep (hv.block _ hca.lt)
          obtain ⟨f0, f1, f2, f3, f4⟩ := hcb.keep (hv.block _ hcb.lt)
          exact ⟨e0, e1, e2, e3, e4, f0, f1, f2, f3, f4⟩
        have hd : Below wr.heap.size wr w3.drew := below_drewN hba 1
        have hS0 := hmv w3 hba
        have hd3 : Below w3.heap.size w3 w3.drew := below_drewN (Below.refl _ _) 1
        have cC := cons_any (F := fun g => (F g ∧ g ≠ w.heap.size + 1) ∧ g ≠ wr.heap.size) (w := w3.drew) (HL.out.under (hBa.trans (hd3.mono hBa.size))) hFz (hta.below hd) (htb.below hd)
        have HR2 := Lib.hid (show madeS 7 [ya, yb] = madeS 7 [ya, yb] from rfl)
        have HCA := Lib.hid hca
        clear hk d9 hwk hk9 hab hca hcb hta htb
        go_upto_region 19 with fail
        refine wp_region_held_drew (S := fun V => V.cell? ⟨g2, o2, none⟩ = some (.int .i8 ya.k) ∧ V.cell? ⟨g2, o2 + 1, none⟩ = some (.int .i64 ya.n) ∧ V.cell? ⟨g2, o2 + 2, none⟩ = some (.string ya.s) ∧ V.cell? ⟨g2, o2 + 3, none⟩ = some (.string ya.t) ∧ V.cell? ⟨g2, o2 + 4, none⟩ = some (.slice pa ya.l.length ca) ∧ V.cell? ⟨g2, o2 + 5, none⟩ = some (.int .i8 yb.k) ∧ V.cell? ⟨g2, o2 + 5 + 1, none⟩ = some (.int .i64 yb.n) ∧ V.cell? ⟨g2, o2 + 5 + 2, none⟩ = some (.string yb.s) ∧ V.cell? ⟨g2, o2 + 5 + 3, none⟩ = some (.string yb.t) ∧ V.cell? ⟨g2, o2 + 5 + 4, none⟩ = some (.slice pb yb.l.length cb)) (by kernel_rfl) ?_ (fun hHeld => ?_)
        · (try dsimp only); (first | exact hS0 | exact hS2 | exact hS3)
        refine wpAnyH_take (i := 0) (v := ?_) rfl (by kernel_rfl) (by kernel_rfl) (by kernel_rfl) (fun _ _ _ h => h) (Or.inl ⟨by rfl, ?_⟩) (by assumption) ?_
        rotate_left 1
        (intro w hSw; (try dsimp only at hSw); go_simp; try with_reducible rfl)
        (try simp only [List.getElem_toArray, List.getElem_cons_zero, Act.put, List.setIfInBounds_toArray, List.set_cons_zero, List.set_cons_succ])
        refine wpAnyH_take (i := 1) (v := ?_) rfl (by kernel_rfl) (by kernel_rfl) (by kernel_rfl) (fun _ _ _ h => h) (Or.inl ⟨by rfl, ?_⟩) (by assumption) ?_
        rotate_left 1
        (intro w hSw; (try dsimp only at hSw); go_simp; try with_reducible rfl)
        (try simp only [List.getElem_toArray, List.getElem_cons_succ, List.getElem_cons_zero, Act.put, List.setIfInBounds_toArray, List.set_cons_zero, List.set_cons_succ])
        refine wpAnyH_take (i := 2) (v := ?_) rfl (by kernel_rfl) (by kernel_rfl) (by kernel_rfl) (fun _ _ _ h => h) (Or.inl ⟨by rfl, ?_⟩) (by assumption) ?_
        rotate_left 1
        (intro w hSw; (try dsimp only at hSw); go_simp; try with_reducible rfl)
        (try simp only [List.getElem_toArray, List.getElem_cons_succ, List.getElem_cons_zero, Act.put, List.setIfInBounds_toArray, List.set_cons_zero, List.set_cons_succ])
        refine wpAnyH_take (i := 3) (v := ?_) rfl (by kernel_rfl) (by kernel_rfl) (by kernel_rfl) (fun _ _ _ h => h) (Or.inl ⟨by rfl, ?_⟩) (by assumption) ?_
        rotate_left 1
        (intro w hSw; (try dsimp only at hSw); go_simp; try with_reducible rfl)
        (try simp only [List.getElem_toArray, List.getElem_cons_succ, List.getElem_cons_zero, Act.put, List.setIfInBounds_toArray, List.set_cons_zero, List.set_cons_succ])
        refine wpAnyH_take (i := 4) (v := ?_) rfl (by kernel_rfl) (by kernel_rfl) (by kernel_rfl) (fun _ _ _ h => h) (Or.inl ⟨by rfl, ?_⟩) (by assumption) ?_
        rotate_left 1
        (intro w hSw; (try dsimp only at hSw); go_simp; try with_reducible rfl)
        (try simp only [List.getElem_toArray, List.getElem_cons_succ, List.getElem_cons_zero, Act.put, List.setIfInBounds_toArray, List.set_cons_zero, List.set_cons_succ])
        refine wpAnyH_take (i := 5) (v := ?_) rfl (by kernel_rfl) (by kernel_rfl) (by kernel_rfl) (fun _ _ _ h => h) (Or.inl ⟨by rfl, ?_⟩) (by assumption) ?_
        rotate_left 1
        (intro w hSw; (try dsimp only at hSw); go_simp; try with_reducible rfl)
        (try simp only [List.getElem_toArray, List.getElem_cons_succ, List.getElem_cons_zero, Act.put, List.setIfInBounds_toArray, List.set_cons_zero, List.set_cons_succ])
        refine wpAnyH_ready (rs := [6]) (by kernel_rfl) (by simp) ?_
        refine AllReadyH.cons rfl (fun K hK => ?_) AllReadyH.nil
        go_simp
        go_wp2_with (go_at_call 112; refine cC.mono ?_; rintro e w5 ⟨y, yv, er, rfl, hy5, hb5, hq⟩; obtain ⟨p5, c5, rfl⟩ := hy5.kids.slice; have hb53 := hd3.trans (hb5.mono hd3.size); have hbr5 := hba.trans (hb53.mono hba.size); have hS2 := hmv _ hbr5; have hn5 := (hb53.block _ hz3).trans hna; have hB5 := hBa.trans (hb53.mono hBa.size); have hn45 := (hb53.block _ (Array.getElem?_eq_some_iff.1 hzr).1).trans hzr; have hbr6 := below_setRow (g := wr.heap.size) (cells := cells5 y (.slice p5 y.l.length c5)) hbr5 (Nat.le_refl _); have hS3 := hmv _ hbr6; have HQ := Lib.hid hq; clear hq)
        refine hK.out _ _ ?_ (fun hHeld => ?_)
        · (try dsimp only); (first | exact hS0 | exact hS2 | exact hS3)
        clear hK K
        (try simp only [List.getElem_toArray, List.getElem_cons_succ, List.getElem_cons_zero, Act.put, List.setIfInBounds_toArray, List.set_cons_zero, List.set_cons_succ])
        refine wpAnyH_take (i := 7) (v := ?_) rfl (by kernel_rfl) (by kernel_rfl) (by kernel_rfl) (fun _ _ _ h => h) (Or.inl ⟨by rfl, ?_⟩) (by assumption) ?_
        rotate_left 1
        (intro w hSw; (try dsimp only at hSw); go_simp; try with_reducible rfl)
        (try simp only [List.getElem_toArray, List.getElem_cons_succ, List.getElem_cons_zero, Act.put, List.setIfInBounds_toArray, List.set_cons_zero, List.set_cons_succ])
        refine wpAnyH_take (i := 8) (v := ?_) rfl (by kernel_rfl) (by kernel_rfl) (by kernel_rfl) (fun _ _ _ h => h) (Or.inl ⟨by rfl, ?_⟩) (by assumption) ?_
        rotate_left 1
        (intro w hSw; (try dsimp only at hSw); go_simp; try with_reducible rfl)
        (try simp only [List.getElem_toArray, List.getElem_cons_succ, List.getElem_cons_zero, Act.put, List.setIfInBounds_toArray, List.set_cons_zero, List.set_cons_succ])
        refine wpAnyH_take (i := 9) (v := ?_) rfl (by kernel_rfl) (by kernel_rfl) (by kernel_rfl) (fun _ _ _ h => h) (Or.inl ⟨by rfl, ?_⟩) (by assumption) ?_
        rotate_left 1
        (intro w hSw; (try dsimp only at hSw); go_simp; try with_reducible rfl)
        (try simp only [List.getElem_toArray, List.getElem_cons_succ, List.getElem_cons_zero, Act.put, List.setIfInBounds_toArray, List.set_cons_zero, List.set_cons_succ])
        refine wpAnyH_ready (rs := [10]) (by kernel_rfl) (by simp) ?_
        refine AllReadyH.cons rfl (fun K hK => ?_) AllReadyH.nil
        (refine step_store_row rfl 29 _ _ rfl wr.heap.size (cells5 y (.slice p5 y.l.length c5)) (by kernel_rfl) (by kernel_rfl) 29 (cells5 zeroT (.slice none 0 0)) hn5 (size28 _ _) (by kernel_rfl) (by kernel_rfl) ?_)
        refine hK.out _ _ ?_ (fun hHeld => ?_)
        · (try dsimp only); (first | exact hS0 | exact hS2 | exact hS3)
        clear hK K
        (try simp only [List.getElem_toArray, List.getElem_cons_succ, List.getElem_cons_zero, Act.put])
        refine wpAnyH_take (i := 11) (v := ?_) rfl (by kernel_rfl) (by kernel_rfl) (by kernel_rfl) (fun _ _ _ h => h) (Or.inl ⟨by rfl, ?_⟩) (by assumption) ?_
        rotate_left 1
        (intro w hSw; (try dsimp only at hSw); go_simp; try with_reducible rfl)
        (try simp only [List.getElem_toArray, List.getElem_cons_succ, List.getElem_cons_zero, Act.put, List.setIfInBounds_toArray, List.set_cons_zero, List.set_cons_succ])
        refine wpAnyH_done (by kernel_rfl) ?_ _
        have hn11 := setRow_heap' (cells := cells5 y (.slice p5 y.l.length c5)) hn5
        have hn4 : (w5.setRow wr.heap.size (cells5 y (.slice p5 y.l.length c5))).heap[w.heap.size + 1]? = some (.cells (cells5 zeroT (.slice none 0 0)) 29 (0, 0)) := (setRow_ne (by have := HSR.out; omega)).trans hn45
        have hBW := below_setRow (g := wr.heap.size) (cells := cells5 y (.slice p5 y.l.length c5)) hB5 (by have := HSR.out; omega)
        have hy6 := hy5.move (P' := fun g => F g ∧ g ≠ w.heap.size + 1) (w' := w5.setRow wr.heap.size (cells5 y (.slice p5 y.l.length c5))) (fun g hg _ => setRow_ne hg.2) (fun g hg _ => hg.1)
        generalize w5.setRow wr.heap.size (cells5 y (.slice p5 y.l.length c5)) = w6 at hn11 hn4 hBW hy6 ⊢
        have HYT := Lib.hid (hy6.move (P' := F) (w' := w6.setRow (w.heap.size + 1) (cells5 y (.slice p5 y.l.length c5))) (fun g hg _ => setRow_ne hg.2) (fun g hg _ => hg.1))
        clear hy5 hy6
        by_cases her : er = 0
        · have HFIN := Lib.hid (show x.gval l = some y by rw [HG.out, HN2.out]; show gput x _ = _; unfold gput; rw [if_neg (by have := HK.out; omega), if_pos HK.out]; rw [← HQ.out, her]; exact if_pos rfl)
          subst her
          obtain ⟨d0, d1, d2, d3, d4⟩ := node_heap (x := y) hn11
          simp only [Nat.zero_add] at d1 d2 d3 d4
          go_wp2_with (refine wpList_store_row rfl 29 _ _ rfl (w.heap.size + 1) (cells5 y (.slice p5 y.l.length c5)) (by kernel_rfl) (by kernel_rfl) 29 (cells5 zeroT (.slice none 0 0)) hn4 (size28 _ _) (by kernel_rfl) (by kernel_rfl) ?_)
          have hr9 := setRow_heap' (cells := cells5 y (.slice p5 y.l.length c5)) hn4
          have hB9 := below_setRow (g := w.heap.size + 1) (cells := cells5 y (.slice p5 y.l.length c5)) hBW (by omega)
          exact bodyPost_ret (v := .tuple #[.agg (cells5 y (.slice p5 y.l.length c5)), .nilIface]) (results_term Tryz.results105 _ _ _ _ _ rfl hr9) rfl ⟨y, _, .nilIface, rfl, HYT.out, hB9, .inl ⟨rfl, HFIN.out⟩⟩
        · have HFIN := Lib.hid (show x.gval l = none by rw [HG.out, HN2.out]; show gput x _ = _; unfold gput; rw [if_neg (by have := HK.out; omega), if_pos HK.out]; rw [← HQ.out]; exact if_neg her)
          have hne : (er != 0) = true := by simpa using her
          clear her
          go_wp2_with (first
            | (go_at_call 107; refine (none_any _ er).mono ?_; rintro e w8 ⟨ev, rfl, hj8, hb8⟩; have hn8 := (hb8.block _ (Array.getElem?_eq_some_iff.1 hn4).1).trans hn4)
            | (refine wpList_store_row rfl 29 _ _ rfl (w.heap.size + 1) (cells5 zeroT (.slice none 0 0)) (by kernel_rfl) (by kernel_rfl) 29 (cells5 zeroT (.slice none 0 0)) hn8 (size28 _ _) (by kernel_rfl) (by kernel_rfl) ?_))
          have hr9 := setRow_heap' (cells := cells5 zeroT (.slice none 0 0)) hn8
          have hB9 := below_setRow (g := w.heap.size + 1) (cells := cells5 zeroT (.slice none 0 0)) (hBW.trans (hb8.mono hBW.size)) (by omega)
          exact bodyPost_ret (v := .tuple #[.agg (cells5 zeroT (.slice none 0 0)), ev]) (results_term Tryz.results105 _ _ _ _ _ rfl hr9) rfl ⟨zeroT, _, ev, rfl, zero_trv _ _, hB9, .inr ⟨⟨_, hj8.setRow hn8⟩, HFIN.out⟩⟩
      · rw [hk] at v0
        have HK := Lib.hid hk
        obtain ⟨ya, yb, hr⟩ : ∃ ya yb, r = [ya, yb] := by
          have := HLR.out
          match r, this.trans hx2 with
          | [a, b], _ => exact ⟨a, b, rfl⟩
        subst hr
        have hab := HRW.out wr (Below.refl _ _)
        obtain ⟨g2, o2, sa, rfl, _, hca, hta⟩ := hab.at (i := 0) (by simp)
        obtain ⟨g3, o3, sb, he, _, hcb, htb⟩ := hab.at (i := 1) (by simp)
        cases he
        change NodeAt wr g2 (o2 + 0 * 5) ya sa at hca
        change NodeAt wr g2 (o2 + 1 * 5) yb sb at hcb
        simp only [Nat.zero_mul, Nat.add_zero, Nat.one_mul] at hca hcb
        have hl0 : (0 : Int) < (L.length : Int) := by have := HLL.out; omega
        have hl1 : (1 : Int) < (L.length : Int) := by have := HLL.out; omega
        have hl0n : 0 < L.length := by omega
        have hl1n : 1 < L.length := by omega
        have hlnn : ¬ L = [] := by intro e; rw [e] at hl0n; exact absurd hl0n (by decide)
        have hia : ya.k = 0 → mayI ya.n = true := HIN.out ya (by simp)
        have hib : yb.k = 0 → mayI yb.n = true := HIN.out yb (by simp)
        have HGO := Lib.hid (show x.gval l = gdo x ya yb by rw [HG.out, HN2.out]; show gput x _ = _; unfold gput; rw [if_neg (by omega), if_neg (by omega)]; rfl)
        obtain ⟨e0, e1, e2, e3, e4⟩ := hca.keep (hba.block _ hca.lt)
        obtain ⟨f0, f1, f2, f3, f4⟩ := hcb.keep (hba.block _ hcb.lt)
        have hBW := hBa
        have hn4 := hzr
        clear hk d9 hwk hk9 hab hta htb e2 e3 e4 f2 f3 f4
        by_cases ha : ya.k = 0
        · by_cases hb : yb.k = 0
          · have hia := hia ha
            have hib := hib hb
            have hcs := (HN.out wr hB).s
            have hmv : ∀ V : World, Below wr.heap.size wr V → V.cell? ⟨w.heap.size, 0, none⟩ = some (.pointer (some ⟨g, o, none⟩)) ∧ V.cell? ⟨g, o + 2, none⟩ = some (.string x.s) ∧ V.cell? ⟨g2, o2 + 1, none⟩ = some (.int .i64 ya.n) ∧ V.cell? ⟨g2, o2 + 5 + 1, none⟩ = some (.int .i64 yb.n) := fun V hv =>
              ⟨(hv.cell (p := ⟨w.heap.size, 0, none⟩) (cell_block v3)).trans v3, (hv.cell (p := ⟨g, o + 2, none⟩) (cell_block hcs)).trans hcs, (hca.keep (hv.block _ hca.lt)).n, (hcb.keep (hv.block _ hcb.lt)).n⟩
            have hS0 := hmv w3 hba
            have hd3 : Below w3.heap.size w3 w3.drew := below_drewN (Below.refl _ _) 1
            have cD := do_any (w := w3.drew) har hia hib
            rw [ha] at e0
            rw [hb] at f0
            have HAB := Lib.hid (And.intro ha hb)
            clear ha hb hia hib
            go_upto_region 15 with fail
            refine wp_region_held_drew (S := fun V => V.cell? ⟨w.heap.size, 0, none⟩ = some (.pointer (some ⟨g, o, none⟩)) ∧ V.cell? ⟨g, o + 2, none⟩ = some (.string x.s) ∧ V.cell? ⟨g2, o2 + 1, none⟩ = some (.int .i64 ya.n) ∧ V.cell? ⟨g2, o2 + 5 + 1, none⟩ = some (.int .i64 yb.n)) (by kernel_rfl) ?_ (fun hHeld => ?_)
            · (try dsimp only); (first | exact hS0 | exact hS2 | exact hS3)
            refine wpAnyH_take (i := 0) (v := ?_) rfl (by kernel_rfl) (by kernel_rfl) (by kernel_rfl) (fun _ _ _ h => h) (Or.inl ⟨by rfl, ?_⟩) (by assumption) ?_
            rotate_left 1
            (intro w hSw; (try dsimp only at hSw); go_simp; try with_reducible rfl)
            (try simp only [List.getElem_toArray, List.getElem_cons_zero, Act.put, List.setIfInBounds_toArray, List.set_cons_zero, List.set_cons_succ])
            refine wpAnyH_take (i := 1) (v := ?_) rfl (by kernel_rfl) (by kernel_rfl) (by kernel_rfl) (fun _ _ _ h => h) (Or.inl ⟨by rfl, ?_⟩) (by assumption) ?_
            rotate_left 1
            (intro w hSw; (try dsimp only at hSw); go_simp; try with_reducible rfl)
            (try simp only [List.getElem_toArray, List.getElem_cons_succ, List.getElem_cons_zero, Act.put, List.setIfInBounds_toArray, List.set_cons_zero, List.set_cons_succ])
            refine wpAnyH_take (i := 2) (v := ?_) rfl (by kernel_rfl) (by kernel_rfl) (by kernel_rfl) (fun _ _ _ h => h) (Or.inl ⟨by rfl, ?_⟩) (by assumption) ?_
            rotate_left 1
            (intro w hSw; (try dsimp only at hSw); go_simp; try with_reducible rfl)
            (try simp only [List.getElem_toArray, List.getElem_cons_succ, List.getElem_cons_zero, Act.put, List.setIfInBounds_toArray, List.set_cons_zero, List.set_cons_succ])
            refine wpAnyH_take (i := 3) (v := ?_) rfl (by kernel_rfl) (by kernel_rfl) (by kernel_rfl) (fun _ _ _ h => h) (Or.inl ⟨by rfl, ?_⟩) (by assumption) ?_
            rotate_left 1
            (intro w hSw; (try dsimp only at hSw); go_simp; try with_reducible rfl)
            (try simp only [List.getElem_toArray, List.getElem_cons_succ, List.getElem_cons_zero, Act.put, List.setIfInBounds_toArray, List.set_cons_zero, List.set_cons_succ])
            refine wpAnyH_take (i := 4) (v := ?_) rfl (by kernel_rfl) (by kernel_rfl) (by kernel_rfl) (fun _ _ _ h => h) (Or.inl ⟨by rfl, ?_⟩) (by assumption) ?_
            rotate_left 1
            (intro w hSw; (try dsimp only at hSw); go_simp; try with_reducible rfl)
            (try simp only [List.getElem_toArray, List.getElem_cons_succ, List.getElem_cons_zero, Act.put, List.setIfInBounds_toArray, List.set_cons_zero, List.set_cons_succ])
            refine wpAnyH_take (i := 5) (v := ?_) rfl (by kernel_rfl) (by kernel_rfl) (by kernel_rfl) (fun _ _ _ h => h) (Or.inl ⟨by rfl, ?_⟩) (by assumption) ?_
            rotate_left 1
            (intro w hSw; (try dsimp only at hSw); go_simp; try with_reducible rfl)
            (try simp only [List.getElem_toArray, List.getElem_cons_succ, List.getElem_cons_zero, Act.put, List.setIfInBounds_toArray, List.set_cons_zero, List.set_cons_succ])
            refine wpAnyH_take (i := 6) (v := ?_) rfl (by kernel_rfl) (by kernel_rfl) (by kernel_rfl) (fun _ _ _ h => h) (Or.inl ⟨by rfl, ?_⟩) (by assumption) ?_
            rotate_left 1
            (intro w hSw; (try dsimp only at hSw); go_simp; try with_reducible rfl)
            (try simp only [List.getElem_toArray, List.getElem_cons_succ, List.getElem_cons_zero, Act.put, List.setIfInBounds_toArray, List.set_cons_zero, List.set_cons_succ])
            refine wpAnyH_take (i := 7) (v := ?_) rfl (by kernel_rfl) (by kernel_rfl) (by kernel_rfl) (fun _ _ _ h => h) (Or.inl ⟨by rfl, ?_⟩) (by assumption) ?_
            rotate_left 1
            (intro w hSw; (try dsimp only at hSw); go_simp; try with_reducible rfl)
            (try simp only [List.getElem_toArray, List.getElem_cons_succ, List.getElem_cons_zero, Act.put, List.setIfInBounds_toArray, List.set_cons_zero, List.set_cons_succ])
            refine wpAnyH_take (i := 8) (v := ?_) rfl (by kernel_rfl) (by kernel_rfl) (by kernel_rfl) (fun _ _ _ h => h) (Or.inl ⟨by rfl, ?_⟩) (by assumption) ?_
            rotate_left 1
            (intro w hSw; (try dsimp only at hSw); go_simp; try with_reducible rfl)
            (try simp only [List.getElem_toArray, List.getElem_cons_succ, List.getElem_cons_zero, Act.put, List.setIfInBounds_toArray, List.set_cons_zero, List.set_cons_succ])
            refine wpAnyH_take (i := 9) (v := ?_) rfl (by kernel_rfl) (by kernel_rfl) (by kernel_rfl) (fun _ _ _ h => h) (Or.inl ⟨by rfl, ?_⟩) (by assumption) ?_
            rotate_left 1
            (intro w hSw; (try dsimp only at hSw); go_simp; try with_reducible rfl)
            (try simp only [List.getElem_toArray, List.getElem_cons_succ, List.getElem_cons_zero, Act.put, List.setIfInBounds_toArray, List.set_cons_zero, List.set_cons_succ])
            refine wpAnyH_take (i := 10) (v := ?_) rfl (by kernel_rfl) (by kernel_rfl) (by kernel_rfl) (fun _ _ _ h => h) (Or.inl ⟨by rfl, ?_⟩) (by assumption) ?_
            rotate_left 1
            (intro w hSw; (try dsimp only at hSw); go_simp; try with_reducible rfl)
            (try simp only [List.getElem_toArray, List.getElem_cons_succ, List.getElem_cons_zero, Act.put, List.setIfInBounds_toArray, List.set_cons_zero, List.set_cons_succ])
            refine wpAnyH_take (i := 11) (v := ?_) rfl (by kernel_rfl) (by kernel_rfl) (by kernel_rfl) (fun _ _ _ h => h) (Or.inl ⟨by rfl, ?_⟩) (by assumption) ?_
            rotate_left 1
            (intro w hSw; (try dsimp only at hSw); go_simp; try with_reducible rfl)
            (try simp only [List.getElem_toArray, List.getElem_cons_succ, List.getElem_cons_zero, Act.put, List.setIfInBounds_toArray, List.set_cons_zero, List.set_cons_succ])
            refine wpAnyH_ready (rs := [12]) (by kernel_rfl) (by simp) ?_
            refine AllReadyH.cons rfl (fun K hK => ?_) AllReadyH.nil
            go_simp
            go_wp2_with (go_at_call 113; refine cD.mono ?_; rintro e w5 ⟨n, er, rfl, hb5, hcase⟩; have hb53 := hd3.trans (hb5.mono hd3.size); have hbr5 := hba.trans (hb53.mono hba.size); have hS2 := hmv _ hbr5; have hn5 := (hb53.block _ hz3).trans hna; have hn45 := (hb53.block _ (Array.getElem?_eq_some_iff.1 hzr).1).trans hzr; have q1 : w5.cell? ⟨wr.heap.size, 1, none⟩ = some (.int .i64 0) := (arr_cell hn5).trans rfl; have qf : w5.frozen? ⟨wr.heap.size, 1, none⟩ = false := arr_free hn5; have hbr6 := hbr5.setCell (p := ⟨wr.heap.size, 1, none⟩) (Nat.le_refl _) (.int .i64 n); have hS3 := hmv _ hbr6; have HCS := Lib.hid hcase; clear hcase)
            refine hK.out _ _ ?_ (fun hHeld => ?_)
            · (try dsimp only); (first | exact hS0 | exact hS2 | exact hS3)
            clear hK K
            (try simp only [List.getElem_toArray, List.getElem_cons_succ, List.getElem_cons_zero, Act.put, List.setIfInBounds_toArray, List.set_cons_zero, List.set_cons_succ])
            refine wpAnyH_take (i := 13) (v := ?_) rfl (by kernel_rfl) (by kernel_rfl) (by kernel_rfl) (fun _ _ _ h => h) (Or.inl ⟨by rfl, ?_⟩) (by assumption) ?_
            rotate_left 1
            (intro w hSw; (try dsimp only at hSw); go_simp; try with_reducible rfl)
            (try simp only [List.getElem_toArray, List.getElem_cons_succ, List.getElem_cons_zero, Act.put, List.setIfInBounds_toArray, List.set_cons_zero, List.set_cons_succ])
            refine wpAnyH_take (i := 14) (v := ?_) rfl (by kernel_rfl) (by kernel_rfl) (by kernel_rfl) (fun _ _ _ h => h) (Or.inl ⟨by rfl, ?_⟩) (by assumption) ?_
            rotate_left 1
            (intro w hSw; (try dsimp only at hSw); go_simp; try with_reducible rfl)
            (try simp only [List.getElem_toArray, List.getElem_cons_succ, List.getElem_cons_zero, Act.put, List.setIfInBounds_toArray, List.set_cons_zero, List.set_cons_succ])
            refine wpAnyH_take (i := 15) (v := ?_) rfl (by kernel_rfl) (by kernel_rfl) (by kernel_rfl) (fun _ _ _ h => h) (Or.inl ⟨by rfl, ?_⟩) (by assumption) ?_
            rotate_left 1
            (intro w hSw; (try dsimp only at hSw); go_simp; try with_reducible rfl)
            (try simp only [List.getElem_toArray, List.getElem_cons_succ, List.getElem_cons_zero, Act.put, List.setIfInBounds_toArray, List.set_cons_zero, List.set_cons_succ])
            refine wpAnyH_take (i := 16) (v := ?_) rfl (by kernel_rfl) (by kernel_rfl) (by kernel_rfl) (fun _ _ _ h => h) (Or.inl ⟨by rfl, ?_⟩) (by assumption) ?_
            rotate_left 1
            (intro w hSw; (try dsimp only at hSw); go_simp; try with_reducible rfl)
            (try simp only [List.getElem_toArray, List.getElem_cons_succ, List.getElem_cons_zero, Act.put, List.setIfInBounds_toArray, List.set_cons_zero, List.set_cons_succ])
            refine wpAnyH_ready (rs := [17]) (by kernel_rfl) (by simp) ?_
            refine AllReadyH.cons rfl (fun K hK => ?_) AllReadyH.nil
            go_simp
            refine hK.out _ _ ?_ (fun hHeld => ?_)
            · (try dsimp only); (first | exact hS0 | exact hS2 | exact hS3)
            clear hK K
            (try simp only [List.getElem_toArray, List.getElem_cons_succ, List.getElem_cons_zero, Act.put, List.setIfInBounds_toArray, List.set_cons_zero, List.set_cons_succ])
            refine wpAnyH_take (i := 18) (v := ?_) rfl (by kernel_rfl) (by kernel_rfl) (by kernel_rfl) (fun _ _ _ h => h) (Or.inl ⟨by rfl, ?_⟩) (by assumption) ?_
            rotate_left 1
            (intro w hSw; (try dsimp only at hSw); go_simp; try with_reducible rfl)
            (try simp only [List.getElem_toArray, List.getElem_cons_succ, List.getElem_cons_zero, Act.put, List.setIfInBounds_toArray, List.set_cons_zero, List.set_cons_succ])
            refine wpAnyH_done (by kernel_rfl) ?_ _
            have hn11 : (w5.setCell ⟨wr.heap.size, 1, none⟩ (.int .i64 n)).heap[wr.heap.size]? = some (.cells (cells5 (.mk 0 n ⟨#[]⟩ ⟨#[]⟩ []) (.slice none 0 0)) 29 (0, 0)) := (arr_set hn5).trans rfl
            have hn4 := (hbr6.block _ HSR.out).trans HZR.out
            have hBW := hB.trans (hbr6.mono hB.size)
            generalize w5.setCell ⟨wr.heap.size, 1, none⟩ (.int .i64 n) = w6 at hn11 hn4 hBW ⊢
            rcases HCS.out with ⟨hmd, hn, rfl⟩ | ⟨hmd, rfl, rfl⟩
            · have HFIN := Lib.hid (show x.gval l = some (.mk 0 n ⟨#[]⟩ ⟨#[]⟩ []) by rw [HGO.out]; unfold gdo; rw [if_pos HAB.out, if_pos hmd, hn])
              have HYT := Lib.hid (show TrV F (w6.setRow (w.heap.size + 1) (cells5 (.mk 0 n ⟨#[]⟩ ⟨#[]⟩ []) (.slice none 0 0))) (.mk 0 n ⟨#[]⟩ ⟨#[]⟩ []) (.slice none 0 0) from ⟨⟨(by decide : (Lit.int .i8 0).wf = true), may_wf (hn ▸ hmd), Nat.zero_le _, Nat.zero_le _⟩, Kids.nil _ _⟩)
              clear hmd hn
              obtain ⟨d0, d1, d2, d3, d4⟩ := node_heap (x := (.mk 0 n ⟨#[]⟩ ⟨#[]⟩ [])) hn11
              simp only [Nat.zero_add] at d1 d2 d3 d4
              go_wp2_with (refine wpList_store_row rfl 29 _ _ rfl (w.heap.size + 1) (cells5 (.mk 0 n ⟨#[]⟩ ⟨#[]⟩ []) (.slice none 0 0)) (by kernel_rfl) (by kernel_rfl) 29 (cells5 zeroT (.slice none 0 0)) hn4 (size28 _ _) (by kernel_rfl) (by kernel_rfl) ?_)
              have hr9 := setRow_heap' (cells := cells5 (.mk 0 n ⟨#[]⟩ ⟨#[]⟩ []) (.slice none 0 0)) hn4
              have hB9 := below_setRow (g := w.heap.size + 1) (cells := cells5 (.mk 0 n ⟨#[]⟩ ⟨#[]⟩ []) (.slice none 0 0)) hBW (by omega)
              exact bodyPost_ret (v := .tuple #[.agg (cells5 (.mk 0 n ⟨#[]⟩ ⟨#[]⟩ []) (.slice none 0 0)), .nilIface]) (results_term Tryz.results105 _ _ _ _ _ rfl hr9) rfl ⟨(.mk 0 n ⟨#[]⟩ ⟨#[]⟩ []), _, .nilIface, rfl, HYT.out, hB9, .inl ⟨rfl, HFIN.out⟩⟩
            · have HFIN := Lib.hid (show x.gval l = none by rw [HGO.out]; unfold gdo; rw [if_pos HAB.out, if_neg (by rw [hmd]; decide)])
              clear hmd
              go_wp2_with (first
                | (go_at_call 107; refine (none_any _ 11).mono ?_; rintro e w8 ⟨ev, rfl, hj8, hb8⟩; have hn8 := (hb8.block _ (Array.getElem?_eq_some_iff.1 hn4).1).trans hn4)
                | (refine wpList_store_row rfl 29 _ _ rfl (w.heap.size + 1) (cells5 zeroT (.slice none 0 0)) (by kernel_rfl) (by kernel_rfl) 29 (cells5 zeroT (.slice none 0 0)) hn8 (size28 _ _) (by kernel_rfl) (by kernel_rfl) ?_))
              have hr9 := setRow_heap' (cells := cells5 zeroT (.slice none 0 0)) hn8
              have hB9 := below_setRow (g := w.heap.size + 1) (cells := cells5 zeroT (.slice none 0 0)) (hBW.trans (hb8.mono hBW.size)) (by omega)
              exact bodyPost_ret (v := .tuple #[.agg (cells5 zeroT (.slice none 0 0)), ev]) (results_term Tryz.results105 _ _ _ _ _ rfl hr9) rfl ⟨zeroT, _, ev, rfl, zero_trv _ _, hB9, .inr ⟨⟨_, hj8.setRow hn8⟩, HFIN.out⟩⟩
          · have HFIN := Lib.hid (show x.gval l = none by rw [HGO.out]; unfold gdo; exact if_neg fun h => hb h.2)
            have hnb : (yb.k != 0) = true := by simpa using hb
            rw [ha] at e0
            clear ha hb hia hib
            go_wp2_with (first
              | (go_at_call 107; refine (none_any _ 10).mono ?_; rintro e w8 ⟨ev, rfl, hj8, hb8⟩; have hn8 := (hb8.block _ (Array.getElem?_eq_some_iff.1 hn4).1).trans hn4)
              | (refine wpList_store_row rfl 29 _ _ rfl (w.heap.size + 1) (cells5 zeroT (.slice none 0 0)) (by kernel_rfl) (by kernel_rfl) 29 (cells5 zeroT (.slice none 0 0)) hn8 (size28 _ _) (by kernel_rfl) (by kernel_rfl) ?_))
            have hr9 := setRow_heap' (cells := cells5 zeroT (.slice none 0 0)) hn8
            have hB9 := below_setRow (g := w.heap.size + 1) (cells := cells5 zeroT (.slice none 0 0)) (hBW.trans (hb8.mono hBW.size)) (by omega)
            exact bodyPost_ret (v := .tuple #[.agg (cells5 zeroT (.slice none 0 0)), ev]) (results_term Tryz.results105 _ _ _ _ _ rfl hr9) rfl ⟨zeroT, _, ev, rfl, zero_trv _ _, hB9, .inr ⟨⟨_, hj8.setRow hn8⟩, HFIN.out⟩⟩
        · have HFIN := Lib.hid (show x.gval l = none by rw [HGO.out]; unfold gdo; exact if_neg fun h => ha h.1)
          have hnb : (ya.k != 0) = true := by simpa using ha
          clear ha hia hib
          go_wp2_with (first
            | (go_at_call 107; refine (none_any _ 10).mono ?_; rintro e w8 ⟨ev, rfl, hj8, hb8⟩; have hn8 := (hb8.block _ (Array.getElem?_eq_some_iff.1 hn4).1).trans hn4)
            | (refine wpList_store_row rfl 29 _ _ rfl (w.heap.size + 1) (cells5 zeroT (.slice none 0 0)) (by kernel_rfl) (by kernel_rfl) 29 (cells5 zeroT (.slice none 0 0)) hn8 (size28 _ _) (by kernel_rfl) (by kernel_rfl) ?_))
          have hr9 := setRow_heap' (cells := cells5 zeroT (.slice none 0 0)) hn8
          have hB9 := below_setRow (g := w.heap.size + 1) (cells := cells5 zeroT (.slice none 0 0)) (hBW.trans (hb8.mono hBW.size)) (by omega)
          exact bodyPost_ret (v := .tuple #[.agg (cells5 zeroT (.slice none 0 0)), ev]) (results_term Tryz.results105 _ _ _ _ _ rfl hr9) rfl ⟨zeroT, _, ev, rfl, zero_trv _ _, hB9, .inr ⟨⟨_, hj8.setRow hn8⟩, HFIN.out⟩⟩


theorem value1_any (x : Tr) (l : List Bd) : GvSays l x := by
  induction x using Tr.ind with
  | h x ih =>
    intro F w bl bof g o sv v hL hF hn hx hbl hl hof hg hm hnn
    rcases grd_kinds hg with ⟨h1, h2⟩ | ⟨h1, h2⟩
    · rcases h1 with h1 | h1 | h1 | h1
      · exact gleaf5_any hL hF hn hx hbl hl h1
      · exact gleaf6_any hL hF hn hx hbl hl h1
      · exact gleaf7_any hL hF hn hx hbl hl h1
      · exact gleaf8_any hL hF hn hx hbl hl h1
    · exact gparts_any hL hF hn hx hbl hl hof (fun y hy => List.all_eq_true.1 h2 y hy) h1 hm hnn ih

set_option maxHeartbeats 4000000 in
set_option maxRecDepth 100000 in
theorem gvalue_any {l : List Bd} {x : Tr} {F : Nat → Prop} {w : World} {g o : Nat} {sv v : Value} (hL : Letters w) (hF : ∀ k, w.heap.size ≤ k → F k) (hn : NodeAt w g o x sv) (hx : TrV F w x sv) (hl : Binds F w v l) (hg : x.grd = true) (hm : gmayB l = true) (hnn : x.nn ≤ 1048576) :
    Calls Tryz.prog 61 #[.pointer (some ⟨g, o, none⟩), v] w (GvPost F (x.gval l) w) := by
  obtain ⟨pl, cl, rfl⟩ := hl.slice
  obtain ⟨n1, n2, hb1, hz1⟩ := two_new w (.cells #[.slice pl l.length cl] 26) (.cells (cells5 zeroT (.slice none 0 0)) 29)
  have HZ1 := Lib.hid hz1
  clear hz1
  go_enter Tryz.func61, Tryz.ntmps61
  go_upto_region 1 with fail
  change Code.wp _ _ _ _ ((w.alloc (.cells #[.slice pl l.length cl] 26)).alloc (.cells (cells5 zeroT (.slice none 0 0)) 29))
  generalize (w.alloc (.cells #[.slice pl l.length cl] 26)).alloc (.cells (cells5 zeroT (.slice none 0 0)) 29) = w1 at n1 n2 hb1 HZ1 ⊢
  have hb2 := alloc_below w1 (.cells #[.func (Fn.func 105) #[] #[.pointer (some ⟨w.heap.size, 0, none⟩), .pointer (some ⟨w1.heap.size, 0, none⟩)]] 117)
  have h2n := heap_new w1 (.cells #[.func (Fn.func 105) #[] #[.pointer (some ⟨w.heap.size, 0, none⟩), .pointer (some ⟨w1.heap.size, 0, none⟩)]] 117)
  have hbW := hb1.trans (hb2.mono hb1.size)
  have hlt : w.heap.size + 1 < w1.heap.size := by have := HZ1.out; omega
  have hz2 := (hb2.block _ hlt).trans n2
  have ho2 : (w1.alloc (.cells #[.func (Fn.func 105) #[] #[.pointer (some ⟨w.heap.size, 0, none⟩), .pointer (some ⟨w1.heap.size, 0, none⟩)]] 117)).cell? ⟨w1.heap.size, 0, none⟩ = some (.func (Fn.func 105) #[] #[.pointer (some ⟨w.heap.size, 0, none⟩), .pointer (some ⟨w1.heap.size, 0, none⟩)]) := (arr_cell h2n).trans rfl
  have hs2 : w1.heap.size < (w1.alloc (.cells #[.func (Fn.func 105) #[] #[.pointer (some ⟨w.heap.size, 0, none⟩), .pointer (some ⟨w1.heap.size, 0, none⟩)]] 117)).heap.size := by simp
  have cV := value1_any x l (fun g => F g ∧ g ≠ w.heap.size + 1) (w1.alloc (.cells #[.func (Fn.func 105) #[] #[.pointer (some ⟨w.heap.size, 0, none⟩), .pointer (some ⟨w1.heap.size, 0, none⟩)]] 117)) w.heap.size w1.heap.size g o sv (.slice pl l.length cl) (hL.under hbW) (fun k hk => ⟨hF k (by omega), by omega⟩) (hn.keep (hbW.block _ hn.lt)) ((hx.mono fun g hg hl => ⟨hg, by omega⟩).below hbW) ((arr_cell ((hb2.block _ (show w.heap.size < w1.heap.size by omega)).trans n1)).trans rfl) ((hl.mono fun g hg hl => ⟨hg, by omega⟩).under hbW) ho2 hg hm hnn
  have HLT := Lib.hid (show w.heap.size + 1 < (w1.alloc (.cells #[.func (Fn.func 105) #[] #[.pointer (some ⟨w.heap.size, 0, none⟩), .pointer (some ⟨w1.heap.size, 0, none⟩)]] 117)).heap.size by omega)
  have HZ2 := Lib.hid hz2
  clear hL hF hn hx hl n1 n2 hlt h2n hs2 hz2
  go_wp2_with (first
    | (go_at_call 105; refine cV.mono ?_; rintro e w5 ⟨y, yv, ev, rfl, hy5, hb5, hc5⟩; obtain ⟨p5, c5, rfl⟩ := hy5.kids.slice; have hn5 := (hb5.block _ HLT.out).trans HZ2.out; have HC5 := Lib.hid hc5; clear hc5)
    | (refine wpList_store_row rfl 29 _ _ rfl (w.heap.size + 1) (cells5 y (.slice p5 y.l.length c5)) (by kernel_rfl) (by kernel_rfl) 29 (cells5 zeroT (.slice none 0 0)) hn5 (size28 _ _) (by kernel_rfl) (by kernel_rfl) ?_))
  have hr9 := setRow_heap' (cells := cells5 y (.slice p5 y.l.length c5)) hn5
  have hB9 := below_setRow (g := w.heap.size + 1) (cells := cells5 y (.slice p5 y.l.length c5)) (hbW.trans (hb5.mono hbW.size)) (by omega)
  have hy9 := hy5.move (P' := F) (w' := w5.setRow (w.heap.size + 1) (cells5 y (.slice p5 y.l.length c5))) (fun g hg _ => setRow_ne hg.2) (fun g hg _ => hg.1)
  refine bodyPost_ret (v := .tuple #[.agg (cells5 y (.slice p5 y.l.length c5)), ev]) (results_term Tryz.results61 _ _ _ _ _ rfl hr9) rfl ⟨y, _, ev, rfl, hy9, hB9, ?_⟩
  rcases HC5.out with h | ⟨⟨k, hj⟩, h⟩
  · exact .inl h
  · exact .inr ⟨⟨k, hj.setRow hn5⟩, h⟩

end Go.Proofs.YtlhobpknflobgaaGreatDoor
