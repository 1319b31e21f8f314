/-
  pleachref11.Find, value, Value. Conditions: the tree lies as 'TrV' says and may be a guard expression, the names as 'Binds' says, and may be.
  pleachref11.Value, kind, test, Test, Holds. Conditions: the trees lie as 'TrV' says, the names as 'Binds' says.
-/
import Derived.Test.YtlhobpknflobgaaGreatDoorT04
import Derived.Test.YtlhobpknflobgaaGreatDoorT02
import Derived.Test.YtlhobpknflobgaaGreatDoorGv7
import Derived.Test.YtlhobpknflobgaaGreatDoorS23
import Derived.Test.YtlhobpknflobgaaGreatDoorGw5
import Derived.Test.YtlhobpknflobgaaGreatDoorGx1
namespace Go.Proofs.YtlhobpknflobgaaGreatDoor
open Go.RowKit

set_option maxHeartbeats 4000000 in
set_option maxRecDepth 100000 in
theorem rfind11_any {F : Nat → Prop} {w : World} {v : Value} {l : List Bd} {s : ByteArray} (hl : Binds F w v l) :
    Calls Tryz.prog 24 #[v, .string s] w (FindSays F l s w) := by
  have hlen : l.length ≤ 2199023255552 := hl.len
  obtain ⟨p, c, rfl⟩ := hl.slice
  have hn : (w.alloc (.cells #[.int .i8 0, .int .i64 0, .string ⟨#[]⟩, .string ⟨#[]⟩, .slice none 0 0] 29)).heap[w.heap.size]? = some (.cells (cells5 zeroT (.slice none 0 0)) 29 (0, 0)) := heap_new w _
  have hb := alloc_below w (.cells #[.int .i8 0, .int .i64 0, .string ⟨#[]⟩, .string ⟨#[]⟩, .slice none 0 0] 29)
  have HL := Lib.hid hl
  clear hl
  go_enter Tryz.func24, Tryz.ntmps24
  go_upto_region 1 with fail
  generalize w.alloc (.cells #[.int .i8 0, .int .i64 0, .string ⟨#[]⟩, .string ⟨#[]⟩, .slice none 0 0] 29) = w1 at hn hb ⊢
  go_wp2_with fail
  go_loopw [6] (fun i wr => ∃ k : Nat, k ≤ l.length ∧ i = .int .i64 k ∧ (l.take k).all (fun b => !(b.s.toList == s.toList)) = true ∧ wr = w1) (fun i _ => l.length - (intOf i).toNat)
  case atStart => exact ⟨0, Nat.zero_le _, rfl, rfl, rfl⟩
  case round =>
    obtain ⟨k, hk, rfl, hall, rfl⟩ := hrel
    by_cases hlt : k < l.length
    · obtain ⟨g, o, kv, rfl, _, hs, hsz, hnode, hkid⟩ := HL.out.at hlt
      have hs0 := (hb.cell (p := ⟨g, o + k * 6, none⟩) (cell_block hs)).trans hs
      obtain ⟨a0, a1, a2, a3, a4⟩ := hnode.keep (hb.block _ hnode.lt)
      clear hs hnode
      have hr := setRow_heap' (cells := cells5 l[k].t kv) hn
      have hB := below_setRow (cells := cells5 l[k].t kv) hb (Nat.le_refl _)
      cases he : (l[k].s.toList == s.toList)
      · have HN : Hid ((l.take (k + 1)).all (fun b => !(b.s.toList == s.toList)) = true) := by
          unfold Hid; rw [List.take_succ_eq_append_getElem hlt, List.all_append, hall]; simp only [List.all_cons, List.all_nil, he]; rfl
        clear hall hr hB
        go_wp2
        go_roundw
        case rel => exact ⟨k + 1, hlt, by go_num, HN.out, by first | rfl | trivial⟩
        case measure => simp [intOf]; omega
      · have HN := Lib.hid (find_here hlt hall he)
        clear hall
        obtain ⟨p2, c2, rfl⟩ := hkid.kids.slice
        go_wp2_with (refine wpList_store_row rfl 29 _ _ rfl w.heap.size (cells5 l[k].t (.slice p2 l[k].t.l.length c2)) (by kernel_rfl) (by kernel_rfl) 29 (cells5 zeroT (.slice none 0 0)) hn (size28 _ _) (by kernel_rfl) (by kernel_rfl) ?_)
        refine bodyPost_ret (v := .tuple #[.agg (cells5 l[k].t (.slice p2 l[k].t.l.length c2)), .bool true]) (results_term Tryz.results24 _ _ _ _ _ rfl hr) rfl ⟨l[k].t, _, ?_, hkid.below hB, ?_, hB⟩
        · rw [HN.out]; rfl
        · rw [HN.out]; rfl
    · rw [List.take_of_length_le (by omega)] at hall
      have HN := Lib.hid (find_none hall)
      have hr := setRow_heap' (cells := cells5 zeroT (.slice none 0 0)) hn
      have hB := below_setRow (cells := cells5 zeroT (.slice none 0 0)) hb (Nat.le_refl _)
      clear hall
      go_wp2_with (refine wpList_store_row rfl 29 _ _ rfl w.heap.size (cells5 zeroT (.slice none 0 0)) (by kernel_rfl) (by kernel_rfl) 29 (cells5 zeroT (.slice none 0 0)) hn (size28 _ _) (by kernel_rfl) (by kernel_rfl) ?_)
      refine bodyPost_ret (v := .tuple #[.agg (cells5 zeroT (.slice none 0 0)), .bool false]) (results_term Tryz.results24 _ _ _ _ _ rfl hr) rfl ⟨zeroT, _, ?_, zero_trv _ _, ?_, hB⟩
      · rw [HN.out]; rfl
      · rw [HN.out]; rfl

def RvPost (F : Nat → Prop) (o : Option Tr) (w : World) (e : Ending) (w' : World) : Prop :=
  ∃ (y : Tr) (yv : Value) (ok : Bool), e = .returned (.tuple #[.agg (cells5 y yv), .bool ok]) ∧ TrV F w' y yv ∧ Below w.heap.size w w' ∧ o = if ok then some y else none
set_option maxHeartbeats 4000000 in
set_option maxRecDepth 100000 in
theorem rval5_any {l : List Bd} {x : Tr} {F : Nat → Prop} {w : World} {sv v : Value} (hF : ∀ k, w.heap.size ≤ k → F k) (hx : TrV F w x sv) (hl : Binds F w v l) (hk : x.k = 5) :
    Calls Tryz.prog 64 #[.agg #[.int .i8 x.k, .int .i64 x.n, .string x.s, .string x.t, sv], v] w (RvPost F (x.gval l) w) := by
  obtain ⟨p1, c1, rfl⟩ := hx.kids.slice
  obtain ⟨pl, cl, rfl⟩ := hl.slice
  obtain ⟨n1, n2, hb1, hz1'⟩ := two_new w (.cells #[.int .i8 x.k, .int .i64 x.n, .string x.s, .string x.t, .slice p1 x.l.length c1] 25) (.cells (cells5 zeroT (.slice none 0 0)) 29)
  have HZ1 := Lib.hid hz1'
  have HX := Lib.hid ((hx.mono (P' := fun g => F g ∧ g < w.heap.size) fun g hg h => ⟨hg, h⟩).below hb1)
  have HB := Lib.hid ((hl.mono (F' := fun g => F g ∧ g < w.heap.size) fun g hg h => ⟨hg, h⟩).under hb1)
  have HF := Lib.hid hF
  have HG := Lib.hid (show x.gval l = if undB x.s = true then none else bfind l x.s by rw [gval_eq, if_pos hk]; rfl)
  have s5 : (x.k == 5) = true := by simpa using hk
  have cF := fun (V : World) (hv : Below ((w.alloc (.cells #[.int .i8 x.k, .int .i64 x.n, .string x.s, .string x.t, .slice p1 x.l.length c1] 25)).alloc (.cells (cells5 zeroT (.slice none 0 0)) 29)).heap.size ((w.alloc (.cells #[.int .i8 x.k, .int .i64 x.n, .string x.s, .string x.t, .slice p1 x.l.length c1] 25)).alloc (.cells (cells5 zeroT (.slice none 0 0)) 29)) V) => rfind11_any (s := x.s) ((HB.out.mono (F' := fun g => F g ∧ g ≠ w.heap.size + 1) fun g hg _ => ⟨hg.1, by omega⟩).under hv)
  clear hF hx hl hz1' hk
  go_enter Tryz.func64, Tryz.ntmps64
  go_upto_region 1 with fail
  change Code.wp _ _ _ _ ((w.alloc (.cells #[.int .i8 x.k, .int .i64 x.n, .string x.s, .string x.t, .slice p1 x.l.length c1] 25)).alloc (.cells (cells5 zeroT (.slice none 0 0)) 29))
  generalize (w.alloc (.cells #[.int .i8 x.k, .int .i64 x.n, .string x.s, .string x.t, .slice p1 x.l.length c1] 25)).alloc (.cells (cells5 zeroT (.slice none 0 0)) 29) = w1 at n1 n2 hb1 HZ1 HX HB cF ⊢
  have hlt1 : w.heap.size + 1 < w1.heap.size := by have := HZ1.out; omega
  obtain ⟨a0, a1, a2, a3, a4⟩ := node_heap n1
  simp only [Nat.zero_add] at a1 a2 a3 a4
  cases hu : undB x.s
  case true =>
    have hu2 : (x.s.toList == [95]) = true := hu
    have HE := Lib.hid (show x.gval l = none by rw [HG.out, if_pos hu])
    clear hu
    go_wp2_with (refine wpList_store_row rfl 29 _ _ rfl (w.heap.size + 1) (cells5 zeroT (.slice none 0 0)) (by kernel_rfl) (by kernel_rfl) 29 (cells5 zeroT (.slice none 0 0)) n2 (size28 _ _) (by kernel_rfl) (by kernel_rfl) ?_)
    have hr9 := setRow_heap' (cells := (cells5 zeroT (.slice none 0 0))) n2
    have hB9 := below_setRow (g := w.heap.size + 1) (cells := (cells5 zeroT (.slice none 0 0))) hb1 (by omega)
    exact bodyPost_ret (v := .tuple #[.agg (cells5 zeroT (.slice none 0 0)), .bool false]) (results_term Tryz.results64 _ _ _ _ _ rfl hr9) rfl ⟨zeroT, _, _, rfl, zero_trv _ _, hB9, HE.out⟩
  have hu2 : (x.s.toList == [95]) = false := hu
  have HE := Lib.hid (show x.gval l = bfind l x.s by rw [HG.out, if_neg (by rw [hu]; simp)])
  have cF1 := cF w1 (Below.refl _ _)
  clear hu cF
  go_wp2_with (first
    | (go_at_call 24; refine cF1.mono ?_; rintro e w5 ⟨y, yv, rfl, hy5, hq, hb5⟩; obtain ⟨p5, c5, rfl⟩ := hy5.kids.slice; have hn5 := (hb5.block _ hlt1).trans n2; have HQ := Lib.hid hq; clear hq)
    | (refine wpList_store_row rfl 29 _ _ rfl (w.heap.size + 1) (cells5 y (.slice p5 y.l.length c5)) (by kernel_rfl) (by kernel_rfl) 29 (cells5 zeroT (.slice none 0 0)) hn5 (size28 _ _) (by kernel_rfl) (by kernel_rfl) ?_))
  have hB5 := hb1.trans (hb5.mono hb1.size)
  have hr9 := setRow_heap' (cells := (cells5 y (.slice p5 y.l.length c5))) hn5
  have hB9 := below_setRow (g := w.heap.size + 1) (cells := (cells5 y (.slice p5 y.l.length c5))) hB5 (by omega)
  have hy9 := hy5.move (P' := F) (w' := w5.setRow (w.heap.size + 1) (cells5 y (.slice p5 y.l.length c5))) (fun g hg _ => setRow_ne hg.2) (fun g hg _ => hg.1)
  exact bodyPost_ret (v := .tuple #[.agg (cells5 y (.slice p5 y.l.length c5)), .bool (bfind l x.s).isSome]) (results_term Tryz.results64 _ _ _ _ _ rfl hr9) rfl ⟨y, _, _, rfl, hy9, hB9, by rw [HE.out, HQ.out]; cases bfind l x.s <;> rfl⟩
set_option maxHeartbeats 4000000 in
set_option maxRecDepth 100000 in
theorem rval6_any {l : List Bd} {x : Tr} {F : Nat → Prop} {w : World} {sv v : Value} (hF : ∀ k, w.heap.size ≤ k → F k) (hx : TrV F w x sv) (hl : Binds F w v l) (hk : x.k = 6) :
    Calls Tryz.prog 64 #[.agg #[.int .i8 x.k, .int .i64 x.n, .string x.s, .string x.t, sv], v] w (RvPost F (x.gval l) w) := by
  obtain ⟨p1, c1, rfl⟩ := hx.kids.slice
  obtain ⟨pl, cl, rfl⟩ := hl.slice
  obtain ⟨n1, n2, hb1, hz1'⟩ := two_new w (.cells #[.int .i8 x.k, .int .i64 x.n, .string x.s, .string x.t, .slice p1 x.l.length c1] 25) (.cells (cells5 zeroT (.slice none 0 0)) 29)
  have HZ1 := Lib.hid hz1'
  have HX := Lib.hid ((hx.mono (P' := fun g => F g ∧ g < w.heap.size) fun g hg h => ⟨hg, h⟩).below hb1)
  have HB := Lib.hid ((hl.mono (F' := fun g => F g ∧ g < w.heap.size) fun g hg h => ⟨hg, h⟩).under hb1)
  have HF := Lib.hid hF
  have HG := Lib.hid (show x.gval l = some (.mk 0 x.n ⟨#[]⟩ ⟨#[]⟩ []) by rw [gval_eq, if_neg (by omega), if_pos hk])
  have HW := Lib.hid hx.wf.n
  have s5 : (x.k == 5) = false := by rw [hk]; rfl
  have s6 : (x.k == 6) = true := by rw [hk]; rfl
  clear hF hx hl hz1' hk
  go_enter Tryz.func64, Tryz.ntmps64
  go_upto_region 1 with fail
  change Code.wp _ _ _ _ ((w.alloc (.cells #[.int .i8 x.k, .int .i64 x.n, .string x.s, .string x.t, .slice p1 x.l.length c1] 25)).alloc (.cells (cells5 zeroT (.slice none 0 0)) 29))
  generalize (w.alloc (.cells #[.int .i8 x.k, .int .i64 x.n, .string x.s, .string x.t, .slice p1 x.l.length c1] 25)).alloc (.cells (cells5 zeroT (.slice none 0 0)) 29) = w1 at n1 n2 hb1 HZ1 HX HB ⊢
  have hlt1 : w.heap.size + 1 < w1.heap.size := by have := HZ1.out; omega
  obtain ⟨a0, a1, a2, a3, a4⟩ := node_heap n1
  simp only [Nat.zero_add] at a1 a2 a3 a4
  have cI := fun (V : World) => int_any V x.n
  go_wp2_with (first
    | (go_at_call 71; refine (cI _).mono ?_; rintro e w5 ⟨rfl, hb5⟩; have hn5 := (hb5.block _ hlt1).trans n2)
    | (refine wpList_store_row rfl 29 _ _ rfl (w.heap.size + 1) (cells5 (.mk 0 x.n ⟨#[]⟩ ⟨#[]⟩ []) (.slice none 0 0)) (by kernel_rfl) (by kernel_rfl) 29 (cells5 zeroT (.slice none 0 0)) hn5 (size28 _ _) (by kernel_rfl) (by kernel_rfl) ?_))
  have hB5 := hb1.trans (hb5.mono hb1.size)
  have hy5 : TrV (fun g => F g ∧ g ≠ w.heap.size + 1) w5 (.mk 0 x.n ⟨#[]⟩ ⟨#[]⟩ []) (.slice none 0 0) := ⟨⟨(by decide : (Lit.int .i8 0).wf = true), HW.out, Nat.zero_le _, Nat.zero_le _⟩, Kids.nil _ _⟩
  have hr9 := setRow_heap' (cells := (cells5 (.mk 0 x.n ⟨#[]⟩ ⟨#[]⟩ []) (.slice none 0 0))) hn5
  have hB9 := below_setRow (g := w.heap.size + 1) (cells := (cells5 (.mk 0 x.n ⟨#[]⟩ ⟨#[]⟩ []) (.slice none 0 0))) hB5 (by omega)
  have hy9 := hy5.move (P' := F) (w' := w5.setRow (w.heap.size + 1) (cells5 (.mk 0 x.n ⟨#[]⟩ ⟨#[]⟩ []) (.slice none 0 0))) (fun g hg _ => setRow_ne hg.2) (fun g hg _ => hg.1)
  exact bodyPost_ret (v := .tuple #[.agg (cells5 (.mk 0 x.n ⟨#[]⟩ ⟨#[]⟩ []) (.slice none 0 0)), .bool true]) (results_term Tryz.results64 _ _ _ _ _ rfl hr9) rfl ⟨(.mk 0 x.n ⟨#[]⟩ ⟨#[]⟩ []), _, _, rfl, hy9, hB9, HG.out⟩
set_option maxHeartbeats 4000000 in
set_option maxRecDepth 100000 in
theorem rval7_any {l : List Bd} {x : Tr} {F : Nat → Prop} {w : World} {sv v : Value} (hF : ∀ k, w.heap.size ≤ k → F k) (hx : TrV F w x sv) (hl : Binds F w v l) (hk : x.k = 7) :
    Calls Tryz.prog 64 #[.agg #[.int .i8 x.k, .int .i64 x.n, .string x.s, .string x.t, sv], v] w (RvPost F (x.gval l) w) := by
  obtain ⟨p1, c1, rfl⟩ := hx.kids.slice
  obtain ⟨pl, cl, rfl⟩ := hl.slice
  obtain ⟨n1, n2, hb1, hz1'⟩ := two_new w (.cells #[.int .i8 x.k, .int .i64 x.n, .string x.s, .string x.t, .slice p1 x.l.length c1] 25) (.cells (cells5 zeroT (.slice none 0 0)) 29)
  have HZ1 := Lib.hid hz1'
  have HX := Lib.hid ((hx.mono (P' := fun g => F g ∧ g < w.heap.size) fun g hg h => ⟨hg, h⟩).below hb1)
  have HB := Lib.hid ((hl.mono (F' := fun g => F g ∧ g < w.heap.size) fun g hg h => ⟨hg, h⟩).under hb1)
  have HF := Lib.hid hF
  have HG := Lib.hid (show x.gval l = some (.mk 1 0 x.s ⟨#[]⟩ []) by rw [gval_eq, if_neg (by omega), if_neg (by omega), if_pos hk])
  have HW := Lib.hid hx.wf.s
  have s5 : (x.k == 5) = false := by rw [hk]; rfl
  have s6 : (x.k == 6) = false := by rw [hk]; rfl
  have s7 : (x.k == 7) = true := by rw [hk]; rfl
  clear hF hx hl hz1' hk
  go_enter Tryz.func64, Tryz.ntmps64
  go_upto_region 1 with fail
  change Code.wp _ _ _ _ ((w.alloc (.cells #[.int .i8 x.k, .int .i64 x.n, .string x.s, .string x.t, .slice p1 x.l.length c1] 25)).alloc (.cells (cells5 zeroT (.slice none 0 0)) 29))
  generalize (w.alloc (.cells #[.int .i8 x.k, .int .i64 x.n, .string x.s, .string x.t, .slice p1 x.l.length c1] 25)).alloc (.cells (cells5 zeroT (.slice none 0 0)) 29) = w1 at n1 n2 hb1 HZ1 HX HB ⊢
  have hlt1 : w.heap.size + 1 < w1.heap.size := by have := HZ1.out; omega
  obtain ⟨a0, a1, a2, a3, a4⟩ := node_heap n1
  simp only [Nat.zero_add] at a1 a2 a3 a4
  have cI := fun (V : World) => ratom_any V x.s
  go_wp2_with (first
    | (go_at_call 70; refine (cI _).mono ?_; rintro e w5 ⟨rfl, hb5⟩; have hn5 := (hb5.block _ hlt1).trans n2)
    | (refine wpList_store_row rfl 29 _ _ rfl (w.heap.size + 1) (cells5 (.mk 1 0 x.s ⟨#[]⟩ []) (.slice none 0 0)) (by kernel_rfl) (by kernel_rfl) 29 (cells5 zeroT (.slice none 0 0)) hn5 (size28 _ _) (by kernel_rfl) (by kernel_rfl) ?_))
  have hB5 := hb1.trans (hb5.mono hb1.size)
  have hy5 : TrV (fun g => F g ∧ g ≠ w.heap.size + 1) w5 (.mk 1 0 x.s ⟨#[]⟩ []) (.slice none 0 0) := ⟨⟨(by decide : (Lit.int .i8 1).wf = true), (by decide : (Lit.int .i64 0).wf = true), HW.out, Nat.zero_le _⟩, Kids.nil _ _⟩
  have hr9 := setRow_heap' (cells := (cells5 (.mk 1 0 x.s ⟨#[]⟩ []) (.slice none 0 0))) hn5
  have hB9 := below_setRow (g := w.heap.size + 1) (cells := (cells5 (.mk 1 0 x.s ⟨#[]⟩ []) (.slice none 0 0))) hB5 (by omega)
  have hy9 := hy5.move (P' := F) (w' := w5.setRow (w.heap.size + 1) (cells5 (.mk 1 0 x.s ⟨#[]⟩ []) (.slice none 0 0))) (fun g hg _ => setRow_ne hg.2) (fun g hg _ => hg.1)
  exact bodyPost_ret (v := .tuple #[.agg (cells5 (.mk 1 0 x.s ⟨#[]⟩ []) (.slice none 0 0)), .bool true]) (results_term Tryz.results64 _ _ _ _ _ rfl hr9) rfl ⟨(.mk 1 0 x.s ⟨#[]⟩ []), _, _, rfl, hy9, hB9, HG.out⟩
set_option maxHeartbeats 4000000 in
set_option maxRecDepth 100000 in
theorem rval8_any {l : List Bd} {x : Tr} {F : Nat → Prop} {w : World} {sv v : Value} (hF : ∀ k, w.heap.size ≤ k → F k) (hx : TrV F w x sv) (hl : Binds F w v l) (hk : x.k = 8) :
    Calls Tryz.prog 64 #[.agg #[.int .i8 x.k, .int .i64 x.n, .string x.s, .string x.t, sv], v] w (RvPost F (x.gval l) w) := by
  obtain ⟨p1, c1, rfl⟩ := hx.kids.slice
  obtain ⟨pl, cl, rfl⟩ := hl.slice
  obtain ⟨n1, n2, hb1, hz1'⟩ := two_new w (.cells #[.int .i8 x.k, .int .i64 x.n, .string x.s, .string x.t, .slice p1 x.l.length c1] 25) (.cells (cells5 zeroT (.slice none 0 0)) 29)
  have HZ1 := Lib.hid hz1'
  have HX := Lib.hid ((hx.mono (P' := fun g => F g ∧ g < w.heap.size) fun g hg h => ⟨hg, h⟩).below hb1)
  have HB := Lib.hid ((hl.mono (F' := fun g => F g ∧ g < w.heap.size) fun g hg h => ⟨hg, h⟩).under hb1)
  have HF := Lib.hid hF
  have HG := Lib.hid (show x.gval l = some (.mk 6 0 ⟨#[]⟩ ⟨#[]⟩ []) by rw [gval_eq, if_neg (by omega), if_neg (by omega), if_neg (by omega), if_pos hk])
  have s5 : (x.k == 5) = false := by rw [hk]; rfl
  have s6 : (x.k == 6) = false := by rw [hk]; rfl
  have s7 : (x.k == 7) = false := by rw [hk]; rfl
  have s8 : (x.k == 8) = true := by rw [hk]; rfl
  clear hF hx hl hz1' hk
  go_enter Tryz.func64, Tryz.ntmps64
  go_upto_region 1 with fail
  change Code.wp _ _ _ _ ((w.alloc (.cells #[.int .i8 x.k, .int .i64 x.n, .string x.s, .string x.t, .slice p1 x.l.length c1] 25)).alloc (.cells (cells5 zeroT (.slice none 0 0)) 29))
  generalize (w.alloc (.cells #[.int .i8 x.k, .int .i64 x.n, .string x.s, .string x.t, .slice p1 x.l.length c1] 25)).alloc (.cells (cells5 zeroT (.slice none 0 0)) 29) = w1 at n1 n2 hb1 HZ1 HX HB ⊢
  have hlt1 : w.heap.size + 1 < w1.heap.size := by have := HZ1.out; omega
  obtain ⟨a0, a1, a2, a3, a4⟩ := node_heap n1
  simp only [Nat.zero_add] at a1 a2 a3 a4
  go_wp2_with (refine wpList_store_row rfl 29 _ _ rfl (w.heap.size + 1) (cells5 (.mk 6 0 ⟨#[]⟩ ⟨#[]⟩ []) (.slice none 0 0)) (by kernel_rfl) (by kernel_rfl) 29 (cells5 zeroT (.slice none 0 0)) n2 (size28 _ _) (by kernel_rfl) (by kernel_rfl) ?_)
  have hy5 : TrV (fun g => F g ∧ g ≠ w.heap.size + 1) w1 (.mk 6 0 ⟨#[]⟩ ⟨#[]⟩ []) (.slice none 0 0) := ⟨⟨(by decide : (Lit.int .i8 6).wf = true), (by decide : (Lit.int .i64 0).wf = true), Nat.zero_le _, Nat.zero_le _⟩, Kids.nil _ _⟩
  have hr9 := setRow_heap' (cells := (cells5 (.mk 6 0 ⟨#[]⟩ ⟨#[]⟩ []) (.slice none 0 0))) n2
  have hB9 := below_setRow (g := w.heap.size + 1) (cells := (cells5 (.mk 6 0 ⟨#[]⟩ ⟨#[]⟩ []) (.slice none 0 0))) hb1 (by omega)
  have hy9 := hy5.move (P' := F) (w' := w1.setRow (w.heap.size + 1) (cells5 (.mk 6 0 ⟨#[]⟩ ⟨#[]⟩ []) (.slice none 0 0))) (fun g hg _ => setRow_ne hg.2) (fun g hg _ => hg.1)
  exact bodyPost_ret (v := .tuple #[.agg (cells5 (.mk 6 0 ⟨#[]⟩ ⟨#[]⟩ []) (.slice none 0 0)), .bool true]) (results_term Tryz.results64 _ _ _ _ _ rfl hr9) rfl ⟨(.mk 6 0 ⟨#[]⟩ ⟨#[]⟩ []), _, _, rfl, hy9, hB9, HG.out⟩
def RvSays (l : List Bd) (x : Tr) : Prop := ∀ (F : Nat → Prop) (w : World) (sv v : Value), (∀ k, w.heap.size ≤ k → F k) → TrV F w x sv → Binds F w v l → x.grd = true → gmayB l = true → x.nn ≤ 1048576 →
    Calls Tryz.prog 64 #[.agg #[.int .i8 x.k, .int .i64 x.n, .string x.s, .string x.t, sv], v] w (RvPost F (x.gval l) w)
set_option maxHeartbeats 16000000 in
set_option maxRecDepth 100000 in
theorem rparts_any {l : List Bd} {x : Tr} {F : Nat → Prop} {w : World} {sv v : Value} (hF : ∀ k, w.heap.size ≤ k → F k) (hx : TrV F w x sv) (hl : Binds F w v l) (hg : ∀ y ∈ x.l, y.grd = true) (hkd : x.k = 10 ∨ (x.k = 9 ∧ x.l.length = 2) ∨ (x.k = 11 ∧ arS x.s = true ∧ x.l.length = 2)) (hm : gmayB l = true) (hnn : x.nn ≤ 1048576) (ih : ∀ y ∈ x.l, RvSays l y) :
    Calls Tryz.prog 64 #[.agg #[.int .i8 x.k, .int .i64 x.n, .string x.s, .string x.t, sv], v] w (RvPost F (x.gval l) w) := by
  obtain ⟨p1, c1, rfl⟩ := hx.kids.slice
  obtain ⟨pl, cl, rfl⟩ := hl.slice
  obtain ⟨n1, n2, hb1, hz1'⟩ := two_new w (.cells #[.int .i8 x.k, .int .i64 x.n, .string x.s, .string x.t, .slice p1 x.l.length c1] 25) (.cells (cells5 zeroT (.slice none 0 0)) 29)
  have HZ1 := Lib.hid hz1'
  have HX := Lib.hid ((hx.mono (P' := fun g => F g ∧ g < w.heap.size) fun g hg h => ⟨hg, h⟩).below hb1)
  have HB := Lib.hid ((hl.mono (F' := fun g => F g ∧ g < w.heap.size) fun g hg h => ⟨hg, h⟩).under hb1)
  have HF := Lib.hid hF
  obtain ⟨i0, hi, hi0, hi1, hi2⟩ := info_parts infoTerm
  have IH := Lib.hid ih
  have HLEN := Lib.hid (show x.l.length ≤ 1048576 by have := nn_len x.l; rw [nn_eq] at hnn; omega)
  have HNN := Lib.hid hnn
  have HGR := Lib.hid hg
  have HKD := Lib.hid hkd
  have HM := Lib.hid hm
  have hk9 : 9 ≤ x.k ∧ x.k ≤ 11 := by rcases hkd with h | h | h <;> omega
  have HG := Lib.hid (show x.gval l = (Tr.gval.vals x.l l).bind fun r => gput x r by rw [gval_eq, if_neg (by omega), if_neg (by omega), if_neg (by omega), if_neg (by omega)])
  have s5 : (x.k == 5) = false := by simp; omega
  have s6 : (x.k == 6) = false := by simp; omega
  have s7 : (x.k == 7) = false := by simp; omega
  have s8 : (x.k == 8) = false := by simp; omega
  clear hF hx hl hz1' ih hnn hg hkd hm
  go_enter Tryz.func64, Tryz.ntmps64
  go_upto_region 1 with fail
  change Code.wp _ _ _ _ ((w.alloc (.cells #[.int .i8 x.k, .int .i64 x.n, .string x.s, .string x.t, .slice p1 x.l.length c1] 25)).alloc (.cells (cells5 zeroT (.slice none 0 0)) 29))
  generalize (w.alloc (.cells #[.int .i8 x.k, .int .i64 x.n, .string x.s, .string x.t, .slice p1 x.l.length c1] 25)).alloc (.cells (cells5 zeroT (.slice none 0 0)) 29) = w1 at n1 n2 hb1 HZ1 HX HB ⊢
  have hlt1 : w.heap.size + 1 < w1.heap.size := by have := HZ1.out; omega
  obtain ⟨a0, a1, a2, a3, a4⟩ := node_heap n1
  simp only [Nat.zero_add] at a1 a2 a3 a4
  have hlen : x.l.length ≤ 1048576 := HLEN.out
  have HLT1 := Lib.hid hlt1
  have HN1 := Lib.hid n1
  have HN2 := Lib.hid n2
  clear n1 n2 hlt1
  go_wp2_with fail
  clear a0 a1 a2 a3 a4 s5 s6 s7 s8
  go_loopw [6, 7] (fun s i wr => GvRel F l x w.heap.size (w.heap.size + 1) w1 s i wr) (fun _ i _ => x.l.length - (intOf i).toNat)
  case atStart => exact ⟨0, Nat.zero_le _, rfl, [], TRow.nil .., Below.refl _ _, gst_start x l, rfl⟩
  case round =>
    obtain ⟨k, hk, rfl, L, hrow, hbr, hst, hLk⟩ := hrel
    obtain ⟨q, cp, rfl⟩ := hrow.slice
    have hB := hb1.trans (hbr.mono hb1.size)
    have hnr := (hbr.block _ HLT1.out).trans HN2.out
    have hn1 := (hbr.block _ (Array.getElem?_eq_some_iff.1 HN1.out).1).trans HN1.out
    have a4 : wr.cell? ⟨w.heap.size, 4, none⟩ = some (.slice p1 x.l.length c1) := (arr_cell hn1).trans rfl
    have HST := Lib.hid hst
    have HROW := Lib.hid hrow
    have HLK := Lib.hid hLk
    have HNR := Lib.hid hnr
    have HN1R := Lib.hid hn1
    have hsr : w1.heap.size ≤ wr.heap.size := hbr.size
    have hlr : w.heap.size + 1 < wr.heap.size := by have := HLT1.out; omega
    have HLR := Lib.hid hlr
    clear hst hrow hLk hnr hn1 hlr
    by_cases hlt : k < x.l.length
    · obtain ⟨g1, o1, qv, rfl, _, hnode, hkid⟩ := (HX.out.below hbr).kids.at hlt
      have hkn := nn_kid (List.getElem_mem hlt)
      have cQ := IH.out x.l[k] (List.getElem_mem hlt) (fun g => (F g ∧ g < w.heap.size) ∨ wr.heap.size ≤ g) wr qv (.slice pl l.length cl) (fun g hg => .inr hg) (hkid.mono fun g hg _ => .inl hg) ((HB.out.under hbr).mono fun g hg _ => .inl hg) (HGR.out _ (List.getElem_mem hlt)) HM.out (by have := HNN.out; omega)
      obtain ⟨oo, hoo⟩ : ∃ oo, x.l[k].gval l = oo := ⟨_, rfl⟩
      have HOO := Lib.hid hoo
      rw [hoo] at cQ
      obtain ⟨pk, ck, rfl⟩ := hkid.kids.slice
      obtain ⟨d0, d1, d2, d3, d4⟩ := hnode
      clear hkid hoo hkn
      go_upto_region 17 with (first
        | (go_at_call 64; refine cQ.mono ?_; rintro e w5 ⟨y, yv, ok, rfl, hy5, hb5, hq5⟩; obtain ⟨p5, c5, rfl⟩ := hy5.kids.slice; have hz5 := heap_new w5 (.cells (cells5 zeroT (.slice none 0 0)) 29); have HQ5 := Lib.hid hq5; clear hq5)
        | (refine wpList_store_row rfl 29 _ _ rfl w5.heap.size (cells5 y (.slice p5 y.l.length c5)) (by kernel_rfl) (by kernel_rfl) 29 (cells5 zeroT (.slice none 0 0)) hz5 (size28 _ _) (by kernel_rfl) (by kernel_rfl) ?_))
      have hb56 := below_setRow (g := w5.heap.size) (cells := cells5 y (.slice p5 y.l.length c5)) (alloc_below w5 (.cells (cells5 zeroT (.slice none 0 0)) 29)) (Nat.le_refl _)
      have hn6 := setRow_heap' (cells := cells5 y (.slice p5 y.l.length c5)) hz5
      have hy6 := hy5.below hb56
      change Code.wp _ _ _ _ ((w5.alloc (.cells (cells5 zeroT (.slice none 0 0)) 29)).setRow w5.heap.size (cells5 y (.slice p5 y.l.length c5)))
      have hb6 := hb5.trans (hb56.mono hb5.size)
      clear hz5 d0 d1 d2 d3 d4 a4
      generalize (w5.alloc (.cells (cells5 zeroT (.slice none 0 0)) 29)).setRow w5.heap.size (cells5 y (.slice p5 y.l.length c5)) = w6 at hn6 hb6 hy6 ⊢
      obtain ⟨b8, hb8⟩ : ∃ b, w5.heap.size = b := ⟨_, rfl⟩
      rw [hb8] at hn6 ⊢
      clear hb8 hb56 hy5 hb5
      have hnz := (hb6.block _ HLR.out).trans HNR.out
      have hB6 := hB.trans (hb6.mono hB.size)
      cases ok
      · have HFIN := Lib.hid (show x.gval l = none by rw [HG.out, gst_none HST.out hlt (HOO.out.trans HQ5.out)]; rfl)
        go_wp2_with (refine wpList_store_row rfl 29 _ _ rfl (w.heap.size + 1) (cells5 zeroT (.slice none 0 0)) (by kernel_rfl) (by kernel_rfl) 29 (cells5 zeroT (.slice none 0 0)) hnz (size28 _ _) (by kernel_rfl) (by kernel_rfl) ?_)
        have hr9 := setRow_heap' (cells := (cells5 zeroT (.slice none 0 0))) hnz
        have hB9 := below_setRow (g := w.heap.size + 1) (cells := (cells5 zeroT (.slice none 0 0))) hB6 (by omega)
        exact bodyPost_ret (v := .tuple #[.agg (cells5 zeroT (.slice none 0 0)), .bool false]) (results_term Tryz.results64 _ _ _ _ _ rfl hr9) rfl ⟨zeroT, _, _, rfl, zero_trv _ _, hB9, HFIN.out⟩
      · obtain ⟨d0, d1, d2, d3, d4⟩ := node_heap (x := y) hn6
        simp only [Nat.zero_add] at d1 d2 d3 d4
        have hown := HROW.out.blk
        have HOWN := Lib.hid hown
        have hb6a := alloc_below w6 (.cells (tcells (y, .slice p5 y.l.length c5)).toArray 29)
        have hrow7 := (HROW.out.below hb6).below hb6a
        have hown7 := hrow7.own
        have HROW7 := Lib.hid hrow7
        have hlenL : L.length ≤ 1048576 := by have := HLK.out; omega
        have hs6 : wr.heap.size ≤ w6.heap.size := hb6.size
        have hbs : w.heap.size + 1 + 1 ≤ (w6.alloc (.cells (tcells (y, .slice p5 y.l.length c5)).toArray 29)).heap.size := by have := HLR.out; simp; omega
        have HY6 := Lib.hid hy6
        have HV9 := Lib.hid (show x.l[k].gval l = some y from HOO.out.trans HQ5.out)
        have hcm : L.length + 1 ≤ maxLen := by unfold maxLen; omega
        have hcb : (L.length + 1) * 72 ≤ 140737488355328 := by omega
        clear hrow7 hn6 hy6 hown hnz
        go_wp2_with (at_builtin; refine wpList_append_own2 rfl (.tmp 60) (.tmp 62) 27 rfl (w.heap.size + 1 + 1) 29 i0 _ 5 72 Tryz.underlying27 hi hi0 hi1 hi2 rfl (by decide) _ L.length (L.flatMap tcells) rfl hown7 ⟨w6.heap.size, 0, none⟩ 1 1 (tcells (y, .slice p5 y.l.length c5)) rfl rfl (cells_at_new w6 (tcells (y, .slice p5 y.l.length c5)) 29) (tcells_plain (q := (y, .slice p5 y.l.length c5)) HY6.out) hcm hcb hbs ?_; intro v8 w8 hown8 hgrow8 hnil8)
        have hyy : TrV (fun g => ((F g ∧ g < w.heap.size) ∨ w.heap.size + 1 < g) ∧ (Value.slice q L.length cp).ownBlock ≠ some g) (w6.alloc (.cells (tcells (y, .slice p5 y.l.length c5)).toArray 29)) y (.slice p5 y.l.length c5) :=
          (HY6.out.below hb6a).mono fun g hg _ => ⟨hg.elim .inl fun h => .inr (by have := HLR.out; omega), fun e => by have := HOWN.out _ e; have := HLR.out; rcases hg with h | h <;> omega⟩
        have hrow8 := HROW7.out.push hyy hown8 hgrow8 hnil8
        have hB8 : Below w1.heap.size w1 w8 := ((hbr.trans (hb6.mono hbr.size)).trans (hb6a.mono (by omega))).grown hgrow8 (by simp; omega) (fun j hj => by have := HOWN.out _ hj; have := HZ1.out; omega)
        have hst9 := gst_next HST.out hlt HV9.out
        go_roundw
        case rel => exact ⟨k + 1, hlt, by go_num, L ++ [(y, .slice p5 y.l.length c5)], hrow8, hB8, by rw [List.map_append]; exact hst9, by rw [List.length_append, HLK.out]; rfl⟩
        case measure => simp [intOf]; omega
    · have HN3 := Lib.hid (gst_end HST.out (by omega))
      have hLlen : L.length = x.l.length := by have := HLK.out; omega
      have HLL := Lib.hid hLlen
      have hL0 : L.length ≤ BL := by have := HLK.out; unfold BL; omega
      have HIN := Lib.hid (show ∀ z ∈ L.map (·.1), z.k = 0 → mayI z.n = true from fun z hz hk0 => by
        obtain ⟨x', hx', h'⟩ := (vals_get HN3.out).2 z hz
        exact gval_int HM.out (HGR.out x' hx') h' hk0)
      have hrw : ∀ V : World, Below wr.heap.size wr V → Kids (fun g => (F g ∧ g ≠ w.heap.size + 1) ∧ g ≠ wr.heap.size) V (.slice q L.length cp) (L.map (·.1)) := fun V hv =>
        ((kids_row (F := fun g => F g ∧ (g < w.heap.size ∨ w.heap.size + 1 < g)) HROW.out.own (fun k hk => ⟨HF.out k (by omega), .inr (by omega)⟩) (fun q hq => (HROW.out.at_ q hq).mono fun g hg _ => hg.1.elim (fun h => ⟨h.1, .inl h.2⟩) (fun h => ⟨HF.out g (by omega), .inr h⟩)) hL0).mono
          fun g hg hl => ⟨⟨hg.1, by omega⟩, by omega⟩).under hv
      have hLr : (L.map (·.1)).length = x.l.length := by simp [hLlen]
      have hna := heap_new wr (.cells (cells5 zeroT (.slice none 0 0)) 29)
      have hba := alloc_below wr (.cells (cells5 zeroT (.slice none 0 0)) 29)
      have HRW := Lib.hid hrw
      have HLR2 := Lib.hid hLr
      clear hrw hLr hLlen
      generalize L.map (·.1) = r at HN3 HIN HRW HLR2
      go_upto_region 22 with fail
      change Code.wp _ _ _ _ (wr.alloc (.cells (cells5 zeroT (.slice none 0 0)) 29))
      generalize wr.alloc (.cells (cells5 zeroT (.slice none 0 0)) 29) = w3 at hna hba ⊢
      have hBa := hB.trans (hba.mono hB.size)
      have hn13 := (hba.block _ (Array.getElem?_eq_some_iff.1 HN1R.out).1).trans HN1R.out
      have v0 : w3.cell? ⟨w.heap.size, 0, none⟩ = some (.int .i8 x.k) := (arr_cell hn13).trans rfl
      have v2 : w3.cell? ⟨w.heap.size, 2, none⟩ = some (.string x.s) := (arr_cell hn13).trans rfl
      have hzr := (hba.block _ HLR.out).trans HNR.out
      have hz3 := (Array.getElem?_eq_some_iff.1 hna).1
      have hFz : ∀ g, w3.heap.size ≤ g → (F g ∧ g ≠ w.heap.size + 1) ∧ g ≠ wr.heap.size := fun g hg => ⟨⟨HF.out g (by have := hBa.size; omega), by have := hBa.size; have := HLR.out; omega⟩, by omega⟩
      have HHn4 := Lib.hid hzr
      have HNA := Lib.hid hna
      clear a4 hn13 hzr hna
      rcases HKD.out with hk | ⟨hk, hx2⟩ | ⟨hk, har, hx2⟩
      · have HK := Lib.hid hk
        have s10 : (x.k == 10) = true := by simpa using hk
        have cT := rtuple_any hFz (HRW.out w3 hba) (by have := HLR2.out; omega)
        clear hk hk9 v2
        go_upto_region 32 with (first
          | (go_at_call 117; refine cT.mono ?_; rintro e w5 ⟨y, yv, er, rfl, hy5, hb5, hq⟩; obtain ⟨p5, c5, rfl⟩ := hy5.kids.slice; have hn5 := (hb5.block _ hz3).trans HNA.out; have HQ := Lib.hid hq; clear hq)
          | (refine wpList_store_row rfl 29 _ _ rfl wr.heap.size (cells5 y (.slice p5 y.l.length c5)) (by kernel_rfl) (by kernel_rfl) 29 (cells5 zeroT (.slice none 0 0)) hn5 (size28 _ _) (by kernel_rfl) (by kernel_rfl) ?_))
        have HFIN := Lib.hid (show x.gval l = if (er == 0) = true then some y else none by rw [HG.out, HN3.out]; show gput x _ = _; unfold gput; rw [if_pos HK.out, ← HQ.out]; unfold okT; simp)
        have hn11 := setRow_heap' (cells := (cells5 y (.slice p5 y.l.length c5))) hn5
        have hn45 := (hb5.block _ (Array.getElem?_eq_some_iff.1 HHn4.out).1).trans HHn4.out
        have hn4 : (w5.setRow wr.heap.size (cells5 y (.slice p5 y.l.length c5))).heap[w.heap.size + 1]? = some (.cells (cells5 zeroT (.slice none 0 0)) 29 (0, 0)) := (setRow_ne (by have := HLR.out; omega)).trans hn45
        have hBW := below_setRow (g := wr.heap.size) (cells := (cells5 y (.slice p5 y.l.length c5))) (hBa.trans (hb5.mono hBa.size)) (by have := HLR.out; omega)
        have hy6 := hy5.move (P' := fun g => F g ∧ g ≠ w.heap.size + 1) (w' := w5.setRow wr.heap.size (cells5 y (.slice p5 y.l.length c5))) (fun g hg _ => setRow_ne hg.2) (fun g hg _ => hg.1)
        clear hn45 hn5 hy5
        generalize w5.setRow wr.heap.size (cells5 y (.slice p5 y.l.length c5)) = w6 at hn11 hn4 hBW hy6 ⊢
        have g0 : w6.cell? ⟨wr.heap.size, 0, none⟩ = some (.int .i8 y.k) := (arr_cell hn11).trans rfl
        have g1 : w6.cell? ⟨wr.heap.size, 1, none⟩ = some (.int .i64 y.n) := (arr_cell hn11).trans rfl
        have g2 : w6.cell? ⟨wr.heap.size, 2, none⟩ = some (.string y.s) := (arr_cell hn11).trans rfl
        have g3 : w6.cell? ⟨wr.heap.size, 3, none⟩ = some (.string y.t) := (arr_cell hn11).trans rfl
        have g4 : w6.cell? ⟨wr.heap.size, 4, none⟩ = some (.slice p5 y.l.length c5) := (arr_cell hn11).trans rfl
        clear hn11
        go_wp2_with (refine wpList_store_row rfl 29 _ _ rfl (w.heap.size + 1) (cells5 y (.slice p5 y.l.length c5)) (by kernel_rfl) (by kernel_rfl) 29 (cells5 zeroT (.slice none 0 0)) hn4 (size28 _ _) (by kernel_rfl) (by kernel_rfl) ?_)
        have hr9 := setRow_heap' (cells := (cells5 y (.slice p5 y.l.length c5))) hn4
        have hB9 := below_setRow (g := w.heap.size + 1) (cells := (cells5 y (.slice p5 y.l.length c5))) hBW (by omega)
        have hy9 := hy6.move (P' := F) (w' := w6.setRow (w.heap.size + 1) (cells5 y (.slice p5 y.l.length c5))) (fun g hg _ => setRow_ne hg.2) (fun g hg _ => hg.1)
        exact bodyPost_ret (v := .tuple #[.agg (cells5 y (.slice p5 y.l.length c5)), .bool (er == 0)]) (results_term Tryz.results64 _ _ _ _ _ rfl hr9) rfl ⟨y, _, _, rfl, hy9, hB9, HFIN.out⟩
      · have HK := Lib.hid hk
        have s10 : (x.k == 10) = false := by rw [hk]; rfl
        have s9 : (x.k == 9) = true := by rw [hk]; rfl
        obtain ⟨ya, yb, hr⟩ : ∃ ya yb, r = [ya, yb] := by
          have := HLR2.out
          match r, this.trans hx2 with
          | [a, b], _ => exact ⟨a, b, rfl⟩
        subst hr
        have hab := HRW.out wr (Below.refl _ _)
        obtain ⟨g2, o2, sa, rfl, _, hca, hta⟩ := hab.at (i := 0) (by simp)
        obtain ⟨g3, o3, sb, he, _, hcb, htb⟩ := hab.at (i := 1) (by simp)
        cases he
        change NodeAt wr g2 (o2 + 0 * 5) ya sa at hca
        change NodeAt wr g2 (o2 + 1 * 5) yb sb at hcb
        simp only [Nat.zero_mul, Nat.add_zero, Nat.one_mul] at hca hcb
        change TrV _ wr ya sa at hta
        change TrV _ wr yb sb at htb
        have hl0 : (0 : Int) < (L.length : Int) := by have := HLL.out; omega
        have hl1 : (1 : Int) < (L.length : Int) := by have := HLL.out; omega
        have hl0n : 0 < L.length := by omega
        have hl1n : 1 < L.length := by omega
        have hlnn : ¬ L = [] := by intro e; rw [e] at hl0n; exact absurd hl0n (by decide)
        have cT := fun (V : World) (hv : Below w3.heap.size w3 V) => rcons_any (F := fun g => (F g ∧ g ≠ w.heap.size + 1) ∧ g ≠ wr.heap.size) (w := V) (fun g hg => hFz g (Nat.le_trans hv.size hg)) (hta.below (hba.trans (hv.mono hba.size))) (htb.below (hba.trans (hv.mono hba.size)))
        obtain ⟨pa, ca, rfl⟩ := hta.kids.slice
        obtain ⟨pb, cb, rfl⟩ := htb.kids.slice
        have HCA := Lib.hid hca
        have HCB := Lib.hid hcb
        have hmv : ∀ V : World, Below wr.heap.size wr V → V.cell? ⟨g2, o2, none⟩ = some (.int .i8 ya.k) ∧ V.cell? ⟨g2, o2 + 1, none⟩ = some (.int .i64 ya.n) ∧ V.cell? ⟨g2, o2 + 2, none⟩ = some (.string ya.s) ∧ V.cell? ⟨g2, o2 + 3, none⟩ = some (.string ya.t) ∧ V.cell? ⟨g2, o2 + 4, none⟩ = some (.slice pa ya.l.length ca) ∧ V.cell? ⟨g2, o2 + 5, none⟩ = some (.int .i8 yb.k) ∧ V.cell? ⟨g2, o2 + 5 + 1, none⟩ = some (.int .i64 yb.n) ∧ V.cell? ⟨g2, o2 + 5 + 2, none⟩ = some (.string yb.s) ∧ V.cell? ⟨g2, o2 + 5 + 3, none⟩ = some (.string yb.t) ∧ V.cell? ⟨g2, o2 + 5 + 4, none⟩ = some (.slice pb yb.l.length cb) := fun V hv => by
          obtain ⟨e0, e1, e2, e3, e4⟩ := HCA.out.keep (hv.block _ HCA.out.lt)
          obtain ⟨f0, f1, f2, f3, f4⟩ := HCB.out.keep (hv.block _ HCB.out.lt)
          exact ⟨e0, e1, e2, e3, e4, f0, f1, f2, f3, f4⟩
        have hS0 := hmv w3 hba
        have hbd : Below w3.heap.size w3 w3.drew := below_drewN (Below.refl _ _) 1
        have cT1 := cT _ hbd
        have HNA4 := Lib.hid ((hbd.block _ hz3).trans HNA.out)
        clear hk hk9 hab hta htb hca hcb v2 cT
        go_upto_region 31 with fail
        refine wp_region_held_drew (S := fun V => V.cell? ⟨g2, o2, none⟩ = some (.int .i8 ya.k) ∧ V.cell? ⟨g2, o2 + 1, none⟩ = some (.int .i64 ya.n) ∧ V.cell? ⟨g2, o2 + 2, none⟩ = some (.string ya.s) ∧ V.cell? ⟨g2, o2 + 3, none⟩ = some (.string ya.t) ∧ V.cell? ⟨g2, o2 + 4, none⟩ = some (.slice pa ya.l.length ca) ∧ V.cell? ⟨g2, o2 + 5, none⟩ = some (.int .i8 yb.k) ∧ V.cell? ⟨g2, o2 + 5 + 1, none⟩ = some (.int .i64 yb.n) ∧ V.cell? ⟨g2, o2 + 5 + 2, none⟩ = some (.string yb.s) ∧ V.cell? ⟨g2, o2 + 5 + 3, none⟩ = some (.string yb.t) ∧ V.cell? ⟨g2, o2 + 5 + 4, none⟩ = some (.slice pb yb.l.length cb)) (by kernel_rfl) ?_ (fun hHeld => ?_)
        · (try dsimp only); (first | exact hS0 | exact hS2 | exact hS3)
        refine wpAnyH_take (i := 0) (v := ?_) rfl (by kernel_rfl) (by kernel_rfl) (by kernel_rfl) (fun _ _ _ h => h) (Or.inl ⟨by rfl, ?_⟩) (by assumption) ?_
        rotate_left 1
        (intro w hSw; (try dsimp only at hSw); go_simp; try with_reducible rfl)
        (try simp only [List.getElem_toArray, List.getElem_cons_zero, Act.put, List.setIfInBounds_toArray, List.set_cons_zero, List.set_cons_succ])
        refine wpAnyH_take (i := 1) (v := ?_) rfl (by kernel_rfl) (by kernel_rfl) (by kernel_rfl) (fun _ _ _ h => h) (Or.inl ⟨by rfl, ?_⟩) (by assumption) ?_
        rotate_left 1
        (intro w hSw; (try dsimp only at hSw); go_simp; try with_reducible rfl)
        (try simp only [List.getElem_toArray, List.getElem_cons_succ, List.getElem_cons_zero, Act.put, List.setIfInBounds_toArray, List.set_cons_zero, List.set_cons_succ])
        refine wpAnyH_take (i := 2) (v := ?_) rfl (by kernel_rfl) (by kernel_rfl) (by kernel_rfl) (fun _ _ _ h => h) (Or.inl ⟨by rfl, ?_⟩) (by assumption) ?_
        rotate_left 1
        (intro w hSw; (try dsimp only at hSw); go_simp; try with_reducible rfl)
        (try simp only [List.getElem_toArray, List.getElem_cons_succ, List.getElem_cons_zero, Act.put, List.setIfInBounds_toArray, List.set_cons_zero, List.set_cons_succ])
        refine wpAnyH_take (i := 3) (v := ?_) rfl (by kernel_rfl) (by kernel_rfl) (by kernel_rfl) (fun _ _ _ h => h) (Or.inl ⟨by rfl, ?_⟩) (by assumption) ?_
        rotate_left 1
        (intro w hSw; (try dsimp only at hSw); go_simp; try with_reducible rfl)
        (try simp only [List.getElem_toArray, List.getElem_cons_succ, List.getElem_cons_zero, Act.put, List.setIfInBounds_toArray, List.set_cons_zero, List.set_cons_succ])
        refine wpAnyH_take (i := 4) (v := ?_) rfl (by kernel_rfl) (by kernel_rfl) (by kernel_rfl) (fun _ _ _ h => h) (Or.inl ⟨by rfl, ?_⟩) (by assumption) ?_
        rotate_left 1
        (intro w hSw; (try dsimp only at hSw); go_simp; try with_reducible rfl)
        (try simp only [List.getElem_toArray, List.getElem_cons_succ, List.getElem_cons_zero, Act.put, List.setIfInBounds_toArray, List.set_cons_zero, List.set_cons_succ])
        refine wpAnyH_take (i := 5) (v := ?_) rfl (by kernel_rfl) (by kernel_rfl) (by kernel_rfl) (fun _ _ _ h => h) (Or.inl ⟨by rfl, ?_⟩) (by assumption) ?_
        rotate_left 1
        (intro w hSw; (try dsimp only at hSw); go_simp; try with_reducible rfl)
        (try simp only [List.getElem_toArray, List.getElem_cons_succ, List.getElem_cons_zero, Act.put, List.setIfInBounds_toArray, List.set_cons_zero, List.set_cons_succ])
        refine wpAnyH_ready (rs := [6]) (by kernel_rfl) (by simp) ?_
        refine AllReadyH.cons rfl (fun K hK => ?_) AllReadyH.nil
        go_simp
        go_wp2_with (go_at_call 118; refine cT1.mono ?_; rintro e w5 ⟨y, yv, er, rfl, hy5, hb45, hq⟩; obtain ⟨p5, c5, rfl⟩ := hy5.kids.slice; have hb5 := hbd.trans (hb45.mono hbd.size); have hbr5 := hba.trans (hb5.mono hba.size); have hS2 := hmv _ hbr5; have hn5 := (hb45.block _ (show wr.heap.size < w3.drew.heap.size from hz3)).trans HNA4.out; have hbr6 := below_setRow (g := wr.heap.size) (cells := cells5 y (.slice p5 y.l.length c5)) hbr5 (Nat.le_refl _); have hS3 := hmv _ hbr6; have HQ := Lib.hid hq; clear hq)
        refine hK.out _ _ ?_ (fun hHeld => ?_)
        · (try dsimp only); (first | exact hS0 | exact hS2 | exact hS3)
        clear hK K
        (try simp only [List.getElem_toArray, List.getElem_cons_succ, List.getElem_cons_zero, Act.put, List.setIfInBounds_toArray, List.set_cons_zero, List.set_cons_succ])
        refine wpAnyH_take (i := 7) (v := ?_) rfl (by kernel_rfl) (by kernel_rfl) (by kernel_rfl) (fun _ _ _ h => h) (Or.inl ⟨by rfl, ?_⟩) (by assumption) ?_
        rotate_left 1
        (intro w hSw; (try dsimp only at hSw); go_simp; try with_reducible rfl)
        (try simp only [List.getElem_toArray, List.getElem_cons_succ, List.getElem_cons_zero, Act.put, List.setIfInBounds_toArray, List.set_cons_zero, List.set_cons_succ])
        refine wpAnyH_take (i := 8) (v := ?_) rfl (by kernel_rfl) (by kernel_rfl) (by kernel_rfl) (fun _ _ _ h => h) (Or.inl ⟨by rfl, ?_⟩) (by assumption) ?_
        rotate_left 1
        (intro w hSw; (try dsimp only at hSw); go_simp; try with_reducible rfl)
        (try simp only [List.getElem_toArray, List.getElem_cons_succ, List.getElem_cons_zero, Act.put, List.setIfInBounds_toArray, List.set_cons_zero, List.set_cons_succ])
        refine wpAnyH_take (i := 9) (v := ?_) rfl (by kernel_rfl) (by kernel_rfl) (by kernel_rfl) (fun _ _ _ h => h) (Or.inl ⟨by rfl, ?_⟩) (by assumption) ?_
        rotate_left 1
        (intro w hSw; (try dsimp only at hSw); go_simp; try with_reducible rfl)
        (try simp only [List.getElem_toArray, List.getElem_cons_succ, List.getElem_cons_zero, Act.put, List.setIfInBounds_toArray, List.set_cons_zero, List.set_cons_succ])
        refine wpAnyH_ready (rs := [10]) (by kernel_rfl) (by simp) ?_
        refine AllReadyH.cons rfl (fun K hK => ?_) AllReadyH.nil
        (refine step_store_row rfl 29 _ _ rfl wr.heap.size (cells5 y (.slice p5 y.l.length c5)) (by kernel_rfl) (by kernel_rfl) 29 (cells5 zeroT (.slice none 0 0)) hn5 (size28 _ _) (by kernel_rfl) (by kernel_rfl) ?_)
        refine hK.out _ _ ?_ (fun hHeld => ?_)
        · (try dsimp only); (first | exact hS0 | exact hS2 | exact hS3)
        clear hK K
        (try simp only [List.getElem_toArray, List.getElem_cons_succ, List.getElem_cons_zero, Act.put])
        refine wpAnyH_take (i := 11) (v := ?_) rfl (by kernel_rfl) (by kernel_rfl) (by kernel_rfl) (fun _ _ _ h => h) (Or.inl ⟨by rfl, ?_⟩) (by assumption) ?_
        rotate_left 1
        (intro w hSw; (try dsimp only at hSw); go_simp; try with_reducible rfl)
        (try simp only [List.getElem_toArray, List.getElem_cons_succ, List.getElem_cons_zero, Act.put, List.setIfInBounds_toArray, List.set_cons_zero, List.set_cons_succ])
        refine wpAnyH_done (by kernel_rfl) ?_ _
        clear hmv hS0 hS2 hS3
        have HFIN := Lib.hid (show x.gval l = if (er == 0) = true then some y else none by rw [HG.out, HN3.out]; show gput x _ = _; unfold gput; rw [if_neg (by have := HK.out; omega), if_pos HK.out, ← HQ.out]; unfold okT; simp)
        have hn11 := setRow_heap' (cells := (cells5 y (.slice p5 y.l.length c5))) hn5
        have hn45 := (hb5.block _ (Array.getElem?_eq_some_iff.1 HHn4.out).1).trans HHn4.out
        have hn4 : (w5.setRow wr.heap.size (cells5 y (.slice p5 y.l.length c5))).heap[w.heap.size + 1]? = some (.cells (cells5 zeroT (.slice none 0 0)) 29 (0, 0)) := (setRow_ne (by have := HLR.out; omega)).trans hn45
        have hBW := below_setRow (g := wr.heap.size) (cells := (cells5 y (.slice p5 y.l.length c5))) (hBa.trans (hb5.mono hBa.size)) (by have := HLR.out; omega)
        have hy6 := hy5.move (P' := fun g => F g ∧ g ≠ w.heap.size + 1) (w' := w5.setRow wr.heap.size (cells5 y (.slice p5 y.l.length c5))) (fun g hg _ => setRow_ne hg.2) (fun g hg _ => hg.1)
        clear hn45 hn5 hy5
        generalize w5.setRow wr.heap.size (cells5 y (.slice p5 y.l.length c5)) = w6 at hn11 hn4 hBW hy6 ⊢
        have g0 : w6.cell? ⟨wr.heap.size, 0, none⟩ = some (.int .i8 y.k) := (arr_cell hn11).trans rfl
        have g1 : w6.cell? ⟨wr.heap.size, 1, none⟩ = some (.int .i64 y.n) := (arr_cell hn11).trans rfl
        have g2 : w6.cell? ⟨wr.heap.size, 2, none⟩ = some (.string y.s) := (arr_cell hn11).trans rfl
        have g3 : w6.cell? ⟨wr.heap.size, 3, none⟩ = some (.string y.t) := (arr_cell hn11).trans rfl
        have g4 : w6.cell? ⟨wr.heap.size, 4, none⟩ = some (.slice p5 y.l.length c5) := (arr_cell hn11).trans rfl
        clear hn11
        go_wp2_with (refine wpList_store_row rfl 29 _ _ rfl (w.heap.size + 1) (cells5 y (.slice p5 y.l.length c5)) (by kernel_rfl) (by kernel_rfl) 29 (cells5 zeroT (.slice none 0 0)) hn4 (size28 _ _) (by kernel_rfl) (by kernel_rfl) ?_)
        have hr9 := setRow_heap' (cells := (cells5 y (.slice p5 y.l.length c5))) hn4
        have hB9 := below_setRow (g := w.heap.size + 1) (cells := (cells5 y (.slice p5 y.l.length c5))) hBW (by omega)
        have hy9 := hy6.move (P' := F) (w' := w6.setRow (w.heap.size + 1) (cells5 y (.slice p5 y.l.length c5))) (fun g hg _ => setRow_ne hg.2) (fun g hg _ => hg.1)
        exact bodyPost_ret (v := .tuple #[.agg (cells5 y (.slice p5 y.l.length c5)), .bool (er == 0)]) (results_term Tryz.results64 _ _ _ _ _ rfl hr9) rfl ⟨y, _, _, rfl, hy9, hB9, HFIN.out⟩
      · have HK := Lib.hid hk
        have s10 : (x.k == 10) = false := by rw [hk]; rfl
        have s9 : (x.k == 9) = false := by rw [hk]; rfl
        obtain ⟨ya, yb, hr⟩ : ∃ ya yb, r = [ya, yb] := by
          have := HLR2.out
          match r, this.trans hx2 with
          | [a, b], _ => exact ⟨a, b, rfl⟩
        subst hr
        have hab := HRW.out wr (Below.refl _ _)
        obtain ⟨g2, o2, sa, rfl, _, hca, hta⟩ := hab.at (i := 0) (by simp)
        obtain ⟨g3, o3, sb, he, _, hcb, htb⟩ := hab.at (i := 1) (by simp)
        cases he
        change NodeAt wr g2 (o2 + 0 * 5) ya sa at hca
        change NodeAt wr g2 (o2 + 1 * 5) yb sb at hcb
        simp only [Nat.zero_mul, Nat.add_zero, Nat.one_mul] at hca hcb
        change TrV _ wr ya sa at hta
        change TrV _ wr yb sb at htb
        have hl0 : (0 : Int) < (L.length : Int) := by have := HLL.out; omega
        have hl1 : (1 : Int) < (L.length : Int) := by have := HLL.out; omega
        have hl0n : 0 < L.length := by omega
        have hl1n : 1 < L.length := by omega
        have hlnn : ¬ L = [] := by intro e; rw [e] at hl0n; exact absurd hl0n (by decide)
        have hia : ya.k = 0 → mayI ya.n = true := HIN.out ya (by simp)
        have hib : yb.k = 0 → mayI yb.n = true := HIN.out yb (by simp)
        have HGO := Lib.hid (show x.gval l = gdo x ya yb by rw [HG.out, HN3.out]; show gput x _ = _; unfold gput; rw [if_neg (by omega), if_neg (by omega)]; rfl)
        obtain ⟨e0, e1, e2, e3, e4⟩ := hca.keep (hba.block _ hca.lt)
        obtain ⟨f0, f1, f2, f3, f4⟩ := hcb.keep (hba.block _ hcb.lt)
        clear hk hk9 hab hta htb hca hcb e2 e3 e4 f2 f3 f4
        by_cases ha : ya.k = 0
        · by_cases hb : yb.k = 0
          · have hia := hia ha
            have hib := hib hb
            have cD := fun (V : World) => rdo_any V har hia hib
            have sa : (ya.k != 0) = false := by simpa using ha
            have sb : (yb.k != 0) = false := by simpa using hb
            have HAB := Lib.hid (And.intro ha hb)
            have hbd : Below w3.heap.size w3 w3.drew := below_drewN (Below.refl _ _) 1
            have hz4 : wr.heap.size < w3.drew.heap.size := hz3
            have HNA4 := Lib.hid ((hbd.block _ hz3).trans HNA.out)
            have hS0 : w3.cell? ⟨w.heap.size, 2, none⟩ = some (.string x.s) ∧ w3.cell? ⟨g2, o2 + 1, none⟩ = some (.int .i64 ya.n) ∧ w3.cell? ⟨g2, o2 + 5 + 1, none⟩ = some (.int .i64 yb.n) := ⟨v2, e1, f1⟩
            clear ha hb hia hib
            go_upto_region 26 with fail
            refine wp_region_held_drew (S := fun V => V.cell? ⟨w.heap.size, 2, none⟩ = some (.string x.s) ∧ V.cell? ⟨g2, o2 + 1, none⟩ = some (.int .i64 ya.n) ∧ V.cell? ⟨g2, o2 + 5 + 1, none⟩ = some (.int .i64 yb.n)) (by kernel_rfl) ?_ (fun hHeld => ?_)
            · (try dsimp only); (exact hS0)
            refine wpAnyH_take (i := 0) (v := ?_) rfl (by kernel_rfl) (by kernel_rfl) (by kernel_rfl) (fun _ _ _ h => h) (Or.inl ⟨by rfl, ?_⟩) (by assumption) ?_
            rotate_left 1
            (intro w hSw; (try dsimp only at hSw); go_simp; try with_reducible rfl)
            (try simp only [List.getElem_toArray, List.getElem_cons_zero, Act.put, List.setIfInBounds_toArray, List.set_cons_zero, List.set_cons_succ])
            refine wpAnyH_take (i := 1) (v := ?_) rfl (by kernel_rfl) (by kernel_rfl) (by kernel_rfl) (fun _ _ _ h => h) (Or.inl ⟨by rfl, ?_⟩) (by assumption) ?_
            rotate_left 1
            (intro w hSw; (try dsimp only at hSw); go_simp; try with_reducible rfl)
            (try simp only [List.getElem_toArray, List.getElem_cons_succ, List.getElem_cons_zero, Act.put, List.setIfInBounds_toArray, List.set_cons_zero, List.set_cons_succ])
            refine wpAnyH_take (i := 2) (v := ?_) rfl (by kernel_rfl) (by kernel_rfl) (by kernel_rfl) (fun _ _ _ h => h) (Or.inl ⟨by rfl, ?_⟩) (by assumption) ?_
            rotate_left 1
            (intro w hSw; (try dsimp only at hSw); go_simp; try with_reducible rfl)
            (try simp only [List.getElem_toArray, List.getElem_cons_succ, List.getElem_cons_zero, Act.put, List.setIfInBounds_toArray, List.set_cons_zero, List.set_cons_succ])
            refine wpAnyH_take (i := 3) (v := ?_) rfl (by kernel_rfl) (by kernel_rfl) (by kernel_rfl) (fun _ _ _ h => h) (Or.inl ⟨by rfl, ?_⟩) (by assumption) ?_
            rotate_left 1
            (intro w hSw; (try dsimp only at hSw); go_simp; try with_reducible rfl)
            (try simp only [List.getElem_toArray, List.getElem_cons_succ, List.getElem_cons_zero, Act.put, List.setIfInBounds_toArray, List.set_cons_zero, List.set_cons_succ])
            refine wpAnyH_take (i := 4) (v := ?_) rfl (by kernel_rfl) (by kernel_rfl) (by kernel_rfl) (fun _ _ _ h => h) (Or.inl ⟨by rfl, ?_⟩) (by assumption) ?_
            rotate_left 1
            (intro w hSw; (try dsimp only at hSw); go_simp; try with_reducible rfl)
            (try simp only [List.getElem_toArray, List.getElem_cons_succ, List.getElem_cons_zero, Act.put, List.setIfInBounds_toArray, List.set_cons_zero, List.set_cons_succ])
            refine wpAnyH_take (i := 5) (v := ?_) rfl (by kernel_rfl) (by kernel_rfl) (by kernel_rfl) (fun _ _ _ h => h) (Or.inl ⟨by rfl, ?_⟩) (by assumption) ?_
            rotate_left 1
            (intro w hSw; (try dsimp only at hSw); go_simp; try with_reducible rfl)
            (try simp only [List.getElem_toArray, List.getElem_cons_succ, List.getElem_cons_zero, Act.put, List.setIfInBounds_toArray, List.set_cons_zero, List.set_cons_succ])
            refine wpAnyH_take (i := 6) (v := ?_) rfl (by kernel_rfl) (by kernel_rfl) (by kernel_rfl) (fun _ _ _ h => h) (Or.inl ⟨by rfl, ?_⟩) (by assumption) ?_
            rotate_left 1
            (intro w hSw; (try dsimp only at hSw); go_simp; try with_reducible rfl)
            (try simp only [List.getElem_toArray, List.getElem_cons_succ, List.getElem_cons_zero, Act.put, List.setIfInBounds_toArray, List.set_cons_zero, List.set_cons_succ])
            refine wpAnyH_take (i := 7) (v := ?_) rfl (by kernel_rfl) (by kernel_rfl) (by kernel_rfl) (fun _ _ _ h => h) (Or.inl ⟨by rfl, ?_⟩) (by assumption) ?_
            rotate_left 1
            (intro w hSw; (try dsimp only at hSw); go_simp; try with_reducible rfl)
            (try simp only [List.getElem_toArray, List.getElem_cons_succ, List.getElem_cons_zero, Act.put, List.setIfInBounds_toArray, List.set_cons_zero, List.set_cons_succ])
            refine wpAnyH_take (i := 8) (v := ?_) rfl (by kernel_rfl) (by kernel_rfl) (by kernel_rfl) (fun _ _ _ h => h) (Or.inl ⟨by rfl, ?_⟩) (by assumption) ?_
            rotate_left 1
            (intro w hSw; (try dsimp only at hSw); go_simp; try with_reducible rfl)
            (try simp only [List.getElem_toArray, List.getElem_cons_succ, List.getElem_cons_zero, Act.put, List.setIfInBounds_toArray, List.set_cons_zero, List.set_cons_succ])
            refine wpAnyH_take (i := 9) (v := ?_) rfl (by kernel_rfl) (by kernel_rfl) (by kernel_rfl) (fun _ _ _ h => h) (Or.inl ⟨by rfl, ?_⟩) (by assumption) ?_
            rotate_left 1
            (intro w hSw; (try dsimp only at hSw); go_simp; try with_reducible rfl)
            (try simp only [List.getElem_toArray, List.getElem_cons_succ, List.getElem_cons_zero, Act.put, List.setIfInBounds_toArray, List.set_cons_zero, List.set_cons_succ])
            refine wpAnyH_ready (rs := [10]) (by kernel_rfl) (by simp) ?_
            refine AllReadyH.cons rfl (fun K hK => ?_) AllReadyH.nil
            go_simp
            go_wp2_with (go_at_call 119; refine (cD _).mono ?_; rintro e w9 ⟨n, er, rfl, rfl, hcase⟩; have HCS := Lib.hid hcase; clear hcase)
            refine hK.out _ _ ?_ (fun hHeld => ?_)
            · (try dsimp only); (exact hS0)
            clear hK K
            (try simp only [List.getElem_toArray, List.getElem_cons_succ, List.getElem_cons_zero, Act.put, List.setIfInBounds_toArray, List.set_cons_zero, List.set_cons_succ])
            refine wpAnyH_take (i := 11) (v := ?_) rfl (by kernel_rfl) (by kernel_rfl) (by kernel_rfl) (fun _ _ _ h => h) (Or.inl ⟨by rfl, ?_⟩) (by assumption) ?_
            rotate_left 1
            (intro w hSw; (try dsimp only at hSw); go_simp; try with_reducible rfl)
            (try simp only [List.getElem_toArray, List.getElem_cons_succ, List.getElem_cons_zero, Act.put, List.setIfInBounds_toArray, List.set_cons_zero, List.set_cons_succ])
            refine wpAnyH_take (i := 12) (v := ?_) rfl (by kernel_rfl) (by kernel_rfl) (by kernel_rfl) (fun _ _ _ h => h) (Or.inl ⟨by rfl, ?_⟩) (by assumption) ?_
            rotate_left 1
            (intro w hSw; (try dsimp only at hSw); go_simp; try with_reducible rfl)
            (try simp only [List.getElem_toArray, List.getElem_cons_succ, List.getElem_cons_zero, Act.put, List.setIfInBounds_toArray, List.set_cons_zero, List.set_cons_succ])
            refine wpAnyH_take (i := 13) (v := ?_) rfl (by kernel_rfl) (by kernel_rfl) (by kernel_rfl) (fun _ _ _ h => h) (Or.inl ⟨by rfl, ?_⟩) (by assumption) ?_
            rotate_left 1
            (intro w hSw; (try dsimp only at hSw); go_simp; try with_reducible rfl)
            (try simp only [List.getElem_toArray, List.getElem_cons_succ, List.getElem_cons_zero, Act.put, List.setIfInBounds_toArray, List.set_cons_zero, List.set_cons_succ])
            refine wpAnyH_take (i := 14) (v := ?_) rfl (by kernel_rfl) (by kernel_rfl) (by kernel_rfl) (fun _ _ _ h => h) (Or.inl ⟨by rfl, ?_⟩) (by assumption) ?_
            rotate_left 1
            (intro w hSw; (try dsimp only at hSw); go_simp; try with_reducible rfl)
            (try simp only [List.getElem_toArray, List.getElem_cons_succ, List.getElem_cons_zero, Act.put, List.setIfInBounds_toArray, List.set_cons_zero, List.set_cons_succ])
            refine wpAnyH_take (i := 15) (v := ?_) rfl (by kernel_rfl) (by kernel_rfl) (by kernel_rfl) (fun _ _ _ h => h) (Or.inl ⟨by rfl, ?_⟩) (by assumption) ?_
            rotate_left 1
            (intro w hSw; (try dsimp only at hSw); go_simp; try with_reducible rfl)
            (try simp only [List.getElem_toArray, List.getElem_cons_succ, List.getElem_cons_zero, Act.put, List.setIfInBounds_toArray, List.set_cons_zero, List.set_cons_succ])
            refine wpAnyH_done (by kernel_rfl) ?_ _
            generalize w3.drew = w4 at hbd hz4 HNA4 ⊢
            have cI := int_any w4 n
            clear hS0
            go_upto_region 32 with (first
              | (go_at_call 71; refine cI.mono ?_; rintro e w5 ⟨rfl, hb45⟩; have hn5 := (hb45.block _ hz4).trans HNA4.out)
              | (refine wpList_store_row rfl 29 _ _ rfl wr.heap.size (cells5 (.mk 0 n ⟨#[]⟩ ⟨#[]⟩ []) (.slice none 0 0)) (by kernel_rfl) (by kernel_rfl) 29 (cells5 zeroT (.slice none 0 0)) hn5 (size28 _ _) (by kernel_rfl) (by kernel_rfl) ?_))
            have hb5 := hbd.trans (hb45.mono hbd.size)
            have hwn : (Lit.int .i64 n).wf = true := by
              rcases HCS.out with ⟨hmd, hn, _⟩ | ⟨_, hn, _⟩
              · exact may_wf (hn ▸ hmd)
              · rw [hn]; decide
            have hy5 : TrV (fun g => (F g ∧ g ≠ w.heap.size + 1) ∧ g ≠ wr.heap.size) w5 (.mk 0 n ⟨#[]⟩ ⟨#[]⟩ []) (.slice none 0 0) := ⟨⟨(by decide : (Lit.int .i8 0).wf = true), hwn, Nat.zero_le _, Nat.zero_le _⟩, Kids.nil _ _⟩
            have HFIN := Lib.hid (show x.gval l = if (er == 0) = true then some (.mk 0 n ⟨#[]⟩ ⟨#[]⟩ []) else none by
              rw [HGO.out]; unfold gdo; rw [if_pos HAB.out]
              rcases HCS.out with ⟨hmd, hn, he⟩ | ⟨hmd, _, he⟩
              · rw [if_pos hmd, hn, he]; rfl
              · rw [if_neg (by rw [hmd]; simp), he]; rfl)
            clear hwn e0 e1 f0 f1
            have hn11 := setRow_heap' (cells := (cells5 (.mk 0 n ⟨#[]⟩ ⟨#[]⟩ []) (.slice none 0 0))) hn5
            have hn45 := (hb5.block _ (Array.getElem?_eq_some_iff.1 HHn4.out).1).trans HHn4.out
            have hn4 : (w5.setRow wr.heap.size (cells5 (.mk 0 n ⟨#[]⟩ ⟨#[]⟩ []) (.slice none 0 0))).heap[w.heap.size + 1]? = some (.cells (cells5 zeroT (.slice none 0 0)) 29 (0, 0)) := (setRow_ne (by have := HLR.out; omega)).trans hn45
            have hBW := below_setRow (g := wr.heap.size) (cells := (cells5 (.mk 0 n ⟨#[]⟩ ⟨#[]⟩ []) (.slice none 0 0))) (hBa.trans (hb5.mono hBa.size)) (by have := HLR.out; omega)
            have hy6 := hy5.move (P' := fun g => F g ∧ g ≠ w.heap.size + 1) (w' := w5.setRow wr.heap.size (cells5 (.mk 0 n ⟨#[]⟩ ⟨#[]⟩ []) (.slice none 0 0))) (fun g hg _ => setRow_ne hg.2) (fun g hg _ => hg.1)
            clear hn45 hn5 hy5
            generalize w5.setRow wr.heap.size (cells5 (.mk 0 n ⟨#[]⟩ ⟨#[]⟩ []) (.slice none 0 0)) = w6 at hn11 hn4 hBW hy6 ⊢
            have g0 : w6.cell? ⟨wr.heap.size, 0, none⟩ = some (.int .i8 0) := (arr_cell hn11).trans rfl
            have g1 : w6.cell? ⟨wr.heap.size, 1, none⟩ = some (.int .i64 n) := (arr_cell hn11).trans rfl
            have g2 : w6.cell? ⟨wr.heap.size, 2, none⟩ = some (.string ⟨#[]⟩) := (arr_cell hn11).trans rfl
            have g3 : w6.cell? ⟨wr.heap.size, 3, none⟩ = some (.string ⟨#[]⟩) := (arr_cell hn11).trans rfl
            have g4 : w6.cell? ⟨wr.heap.size, 4, none⟩ = some (.slice none 0 0) := (arr_cell hn11).trans rfl
            clear hn11
            go_wp2_with (refine wpList_store_row rfl 29 _ _ rfl (w.heap.size + 1) (cells5 (.mk 0 n ⟨#[]⟩ ⟨#[]⟩ []) (.slice none 0 0)) (by kernel_rfl) (by kernel_rfl) 29 (cells5 zeroT (.slice none 0 0)) hn4 (size28 _ _) (by kernel_rfl) (by kernel_rfl) ?_)
            have hr9 := setRow_heap' (cells := (cells5 (.mk 0 n ⟨#[]⟩ ⟨#[]⟩ []) (.slice none 0 0))) hn4
            have hB9 := below_setRow (g := w.heap.size + 1) (cells := (cells5 (.mk 0 n ⟨#[]⟩ ⟨#[]⟩ []) (.slice none 0 0))) hBW (by omega)
            have hy9 := hy6.move (P' := F) (w' := w6.setRow (w.heap.size + 1) (cells5 (.mk 0 n ⟨#[]⟩ ⟨#[]⟩ []) (.slice none 0 0))) (fun g hg _ => setRow_ne hg.2) (fun g hg _ => hg.1)
            exact bodyPost_ret (v := .tuple #[.agg (cells5 (.mk 0 n ⟨#[]⟩ ⟨#[]⟩ []) (.slice none 0 0)), .bool (er == 0)]) (results_term Tryz.results64 _ _ _ _ _ rfl hr9) rfl ⟨(.mk 0 n ⟨#[]⟩ ⟨#[]⟩ []), _, _, rfl, hy9, hB9, HFIN.out⟩
          · have HFIN := Lib.hid (show x.gval l = none by rw [HGO.out]; unfold gdo; exact if_neg fun h => hb h.2)
            have sa : (ya.k != 0) = false := by simpa using ha
            have sb : (yb.k != 0) = true := by simpa using hb
            have hzr := HHn4.out
            clear ha hb hia hib
            go_wp2_with (refine wpList_store_row rfl 29 _ _ rfl (w.heap.size + 1) (cells5 zeroT (.slice none 0 0)) (by kernel_rfl) (by kernel_rfl) 29 (cells5 zeroT (.slice none 0 0)) hzr (size28 _ _) (by kernel_rfl) (by kernel_rfl) ?_)
            have hr9 := setRow_heap' (cells := (cells5 zeroT (.slice none 0 0))) hzr
            have hB9 := below_setRow (g := w.heap.size + 1) (cells := (cells5 zeroT (.slice none 0 0))) hBa (by omega)
            exact bodyPost_ret (v := .tuple #[.agg (cells5 zeroT (.slice none 0 0)), .bool false]) (results_term Tryz.results64 _ _ _ _ _ rfl hr9) rfl ⟨zeroT, _, _, rfl, zero_trv _ _, hB9, HFIN.out⟩
        · have HFIN := Lib.hid (show x.gval l = none by rw [HGO.out]; unfold gdo; exact if_neg fun h => ha h.1)
          have sa : (ya.k != 0) = true := by simpa using ha
          have hzr := HHn4.out
          clear ha hia hib
          go_wp2_with (refine wpList_store_row rfl 29 _ _ rfl (w.heap.size + 1) (cells5 zeroT (.slice none 0 0)) (by kernel_rfl) (by kernel_rfl) 29 (cells5 zeroT (.slice none 0 0)) hzr (size28 _ _) (by kernel_rfl) (by kernel_rfl) ?_)
          have hr9 := setRow_heap' (cells := (cells5 zeroT (.slice none 0 0))) hzr
          have hB9 := below_setRow (g := w.heap.size + 1) (cells := (cells5 zeroT (.slice none 0 0))) hBa (by omega)
          exact bodyPost_ret (v := .tuple #[.agg (cells5 zeroT (.slice none 0 0)), .bool false]) (results_term Tryz.results64 _ _ _ _ _ rfl hr9) rfl ⟨zeroT, _, _, rfl, zero_trv _ _, hB9, HFIN.out⟩

theorem rvalue_any (x : Tr) (l : List Bd) : RvSays l x := by
  induction x using Tr.ind with
  | h x ih =>
    intro F w sv v hF hx hl hg hm hnn
    rcases grd_kinds hg with ⟨h1, h2⟩ | ⟨h1, h2⟩
    · rcases h1 with h1 | h1 | h1 | h1
      · exact rval5_any hF hx hl h1
      · exact rval6_any hF hx hl h1
      · exact rval7_any hF hx hl h1
      · exact rval8_any hF hx hl h1
    · exact rparts_any hF hx hl (fun y hy => List.all_eq_true.1 h2 y hy) h1 hm hnn ih
end Go.Proofs.YtlhobpknflobgaaGreatDoor
namespace Go.Proofs.YtlhobpknflobgaaGreatDoor
open Go.RowKit

set_option maxHeartbeats 2000000 in
theorem rkind11_any (w : World) (s : ByteArray) (t : Tr) (p : Option Addr) (c : Nat) : Calls Tryz.prog 120 #[.string s, .agg #[.int .i8 t.k, .int .i64 t.n, .string t.s, .string t.t, .slice p t.l.length c]] w fun e w' => e = .returned (.bool ((knL s).any fun u => t.k == u)) ∧ Below w.heap.size w w' := by
  have HK : Hid (knL s = if s.toList == [105, 115, 95, 97, 116, 111, 109] then [1] else if s.toList == [105, 115, 95, 105, 110, 116, 101, 103, 101, 114] then [0] else if s.toList == [105, 115, 95, 112, 105, 100] then [4] else if s.toList == [105, 115, 95, 114, 101, 102, 101, 114, 101, 110, 99, 101] then [2] else if s.toList == [105, 115, 95, 116, 117, 112, 108, 101] then [5] else if s.toList == [105, 115, 95, 102, 117, 110, 99, 116, 105, 111, 110] then [3] else [6, 7]) := Lib.hid rfl
  have hb := alloc_below w (.cells #[.int .i8 t.k, .int .i64 t.n, .string t.s, .string t.t, .slice p t.l.length c] 29)
  obtain ⟨e0, e1, e2, e3, e4⟩ := box5 w (.int .i8 t.k) (.int .i64 t.n) (.string t.s) (.string t.t) (.slice p t.l.length c) 29
  cases h0 : (s.toList == [105, 115, 95, 97, 116, 111, 109])
  case true =>
    have HP : Hid (((knL s).any fun u => t.k == u) = (t.k == 1)) := by unfold Hid; rw [HK.out, if_pos h0]; simp
    go_enter Tryz.func120, Tryz.ntmps120
    go_wp2
    go_ret
    exact ⟨by rw [HP.out] <;> rfl, hb⟩
  cases h1 : (s.toList == [105, 115, 95, 105, 110, 116, 101, 103, 101, 114])
  case true =>
    have HP : Hid (((knL s).any fun u => t.k == u) = (t.k == 0)) := by unfold Hid; rw [HK.out, if_neg (by rw [h0]; simp), if_pos h1]; simp
    go_enter Tryz.func120, Tryz.ntmps120
    go_wp2
    go_ret
    exact ⟨by rw [HP.out] <;> rfl, hb⟩
  cases h2 : (s.toList == [105, 115, 95, 112, 105, 100])
  case true =>
    have HP : Hid (((knL s).any fun u => t.k == u) = (t.k == 4)) := by unfold Hid; rw [HK.out, if_neg (by rw [h0]; simp), if_neg (by rw [h1]; simp), if_pos h2]; simp
    go_enter Tryz.func120, Tryz.ntmps120
    go_wp2
    go_ret
    exact ⟨by rw [HP.out] <;> rfl, hb⟩
  cases h3 : (s.toList == [105, 115, 95, 114, 101, 102, 101, 114, 101, 110, 99, 101])
  case true =>
    have HP : Hid (((knL s).any fun u => t.k == u) = (t.k == 2)) := by unfold Hid; rw [HK.out, if_neg (by rw [h0]; simp), if_neg (by rw [h1]; simp), if_neg (by rw [h2]; simp), if_pos h3]; simp
    go_enter Tryz.func120, Tryz.ntmps120
    go_wp2
    go_ret
    exact ⟨by rw [HP.out] <;> rfl, hb⟩
  cases h4 : (s.toList == [105, 115, 95, 116, 117, 112, 108, 101])
  case true =>
    have HP : Hid (((knL s).any fun u => t.k == u) = (t.k == 5)) := by unfold Hid; rw [HK.out, if_neg (by rw [h0]; simp), if_neg (by rw [h1]; simp), if_neg (by rw [h2]; simp), if_neg (by rw [h3]; simp), if_pos h4]; simp
    go_enter Tryz.func120, Tryz.ntmps120
    go_wp2
    go_ret
    exact ⟨by rw [HP.out] <;> rfl, hb⟩
  cases h5 : (s.toList == [105, 115, 95, 102, 117, 110, 99, 116, 105, 111, 110])
  case true =>
    have HP : Hid (((knL s).any fun u => t.k == u) = (t.k == 3)) := by unfold Hid; rw [HK.out, if_neg (by rw [h0]; simp), if_neg (by rw [h1]; simp), if_neg (by rw [h2]; simp), if_neg (by rw [h3]; simp), if_neg (by rw [h4]; simp), if_pos h5]; simp
    go_enter Tryz.func120, Tryz.ntmps120
    go_wp2
    go_ret
    exact ⟨by rw [HP.out] <;> rfl, hb⟩
  have HP : Hid (((knL s).any fun u => t.k == u) = (t.k == 6 || t.k == 7)) := by unfold Hid; rw [HK.out, if_neg (by rw [h0]; simp), if_neg (by rw [h1]; simp), if_neg (by rw [h2]; simp), if_neg (by rw [h3]; simp), if_neg (by rw [h4]; simp), if_neg (by rw [h5]; simp)]; simp
  cases h6 : (t.k == 6)
  all_goals
    rw [h6] at HP
    go_enter Tryz.func120, Tryz.ntmps120
    go_wp2
    go_ret
    exact ⟨by rw [HP.out] <;> rfl, hb⟩

set_option maxHeartbeats 8000000 in
set_option maxRecDepth 100000 in
theorem rValue_any {F : Nat → Prop} {x : Tr} {l : List Bd} {w : World} {sv v : Value} (hF : ∀ g, w.heap.size ≤ g → F g) (hx : TrV F w x sv) (hl : Binds F w v l) :
    Calls Tryz.prog 22 #[.agg #[.int .i8 x.k, .int .i64 x.n, .string x.s, .string x.t, sv], v] w (MadeSays F (valS x l) w) := by
  obtain ⟨p, c, rfl⟩ := hx.kids.slice
  obtain ⟨pl, cl, rfl⟩ := hl.slice
  obtain ⟨n1, n2, hb1, hz1⟩ := two_new w (.cells #[.int .i8 x.k, .int .i64 x.n, .string x.s, .string x.t, .slice p x.l.length c] 25) (.cells (cells5 zeroT (.slice none 0 0)) 29)
  have HZ1 := Lib.hid hz1
  have HX := Lib.hid ((hx.mono (P' := fun g => F g ∧ g ≠ w.heap.size + 1) fun g hg h => ⟨hg, by omega⟩).below hb1)
  have HB := Lib.hid ((hl.mono (F' := fun g => F g ∧ g ≠ w.heap.size + 1) fun g hg h => ⟨hg, by omega⟩).under hb1)
  have HF := Lib.hid hF
  have HV := Lib.hid (show valS x l = if (grdB x && gmayB l) = true then (match x.gval l with | some y => (y, (0 : Int)) | none => (zeroT, 93)) else (zeroT, 2) from rfl)
  clear hx hl hF hz1
  go_enter Tryz.func22, Tryz.ntmps22
  go_upto_region 1 with fail
  change Code.wp _ _ _ _ ((w.alloc (.cells #[.int .i8 x.k, .int .i64 x.n, .string x.s, .string x.t, .slice p x.l.length c] 25)).alloc (.cells (cells5 zeroT (.slice none 0 0)) 29))
  generalize (w.alloc (.cells #[.int .i8 x.k, .int .i64 x.n, .string x.s, .string x.t, .slice p x.l.length c] 25)).alloc (.cells (cells5 zeroT (.slice none 0 0)) 29) = w1 at n1 n2 hb1 HZ1 HX HB ⊢
  have hlt : w.heap.size + 1 < w1.heap.size := by have := HZ1.out; omega
  have cG := nGuardedF_any HX.out
  have cM := fun (V : World) (hb : Below w1.heap.size w1 V) => rmay11_any (HB.out.under hb)
  obtain ⟨a0, a1, a2, a3, a4⟩ := node_heap n1
  simp only [Nat.zero_add] at a1 a2 a3 a4
  have HN1 := Lib.hid n1
  have HN2 := Lib.hid n2
  have HLT := Lib.hid hlt
  clear n1 n2 hlt
  cases hg : grdB x
  case false =>
    rw [hg] at cG
    have HE : Hid (valS x l = (zeroT, 2)) := by unfold Hid; rw [HV.out, hg]; rfl
    clear hg cM
    go_wp2_with (first
      | (go_at_call 63; refine cG.mono ?_; rintro e w5 ⟨rfl, hb5⟩; have hn5 := (hb5.block _ HLT.out).trans HN2.out)
      | (refine wpList_store_row rfl 29 _ _ rfl (w.heap.size + 1) (cells5 zeroT (.slice none 0 0)) (by kernel_rfl) (by kernel_rfl) 29 (cells5 zeroT (.slice none 0 0)) hn5 (size28 _ _) (by kernel_rfl) (by kernel_rfl) ?_))
    have hr9 := setRow_heap' (cells := cells5 zeroT (.slice none 0 0)) hn5
    have hB9 := below_setRow (g := w.heap.size + 1) (cells := cells5 zeroT (.slice none 0 0)) (hb1.trans (hb5.mono hb1.size)) (by omega)
    exact bodyPost_ret (v := .tuple #[.agg (cells5 zeroT (.slice none 0 0)), .int .i64 2]) (results_term Tryz.results22 _ _ _ _ _ rfl hr9) rfl ⟨zeroT, _, 2, rfl, zero_trv _ _, hB9, HE.out.symm⟩
  rw [hg] at cG
  cases hm : gmayB l
  case false =>
    have HE : Hid (valS x l = (zeroT, 2)) := by unfold Hid; rw [HV.out, hg, hm]; rfl
    rw [hm] at cM
    clear hg hm
    go_wp2_with (first
      | (go_at_call 63; refine cG.mono ?_; rintro e w5 ⟨rfl, hb5⟩)
      | (go_at_call 15; refine (cM _ hb5).mono ?_; rintro e w6 ⟨rfl, hb6⟩; have hB6 := hb5.trans (hb6.mono hb5.size); have hn5 := (hB6.block _ HLT.out).trans HN2.out)
      | (refine wpList_store_row rfl 29 _ _ rfl (w.heap.size + 1) (cells5 zeroT (.slice none 0 0)) (by kernel_rfl) (by kernel_rfl) 29 (cells5 zeroT (.slice none 0 0)) hn5 (size28 _ _) (by kernel_rfl) (by kernel_rfl) ?_))
    have hr9 := setRow_heap' (cells := cells5 zeroT (.slice none 0 0)) hn5
    have hB9 := below_setRow (g := w.heap.size + 1) (cells := cells5 zeroT (.slice none 0 0)) (hb1.trans (hB6.mono hb1.size)) (by omega)
    exact bodyPost_ret (v := .tuple #[.agg (cells5 zeroT (.slice none 0 0)), .int .i64 2]) (results_term Tryz.results22 _ _ _ _ _ rfl hr9) rfl ⟨zeroT, _, 2, rfl, zero_trv _ _, hB9, HE.out.symm⟩
  rw [hm] at cM
  have hfg : fitsB x = true ∧ x.grd = true := by simpa [grdB] using hg
  have hnn := fits_nn hfg.1
  have cV := fun (V : World) (hb : Below w1.heap.size w1 V) => rvalue_any x l (fun g => F g ∧ g ≠ w.heap.size + 1) V (.slice p x.l.length c) (.slice pl l.length cl) (fun g hg => ⟨HF.out g (by have := hb.size; have := HLT.out; omega), by have := hb.size; have := HLT.out; omega⟩) (HX.out.below hb) (HB.out.under hb) hfg.2 hm (by omega)
  have HE : Hid (valS x l = match x.gval l with | some y => (y, (0 : Int)) | none => (zeroT, 93)) := by unfold Hid; rw [HV.out, hg, hm]; rfl
  clear hg hm hfg hnn
  clear HV
  generalize x.gval l = oo at cV HE
  go_upto_region 4 with (first
    | (go_at_call 63; refine cG.mono ?_; rintro e w5 ⟨rfl, hb5⟩)
    | (go_at_call 15; refine (cM _ hb5).mono ?_; rintro e w6 ⟨rfl, hb6⟩; have hB6 := hb5.trans (hb6.mono hb5.size); have hn16 := (hB6.block _ (Array.getElem?_eq_some_iff.1 HN1.out).1).trans HN1.out; obtain ⟨d0, d1, d2, d3, d4⟩ := node_heap hn16; simp only [Nat.zero_add] at d1 d2 d3 d4)
    | (go_at_call 64; refine (cV _ hB6).mono ?_; rintro e w7 ⟨y, yv, ok, rfl, hy7, hb7, hc7⟩; obtain ⟨p7, c7, rfl⟩ := hy7.kids.slice; have hB7 := hB6.trans (hb7.mono hB6.size); have hn7 := heap_new w7 (.cells (cells5 zeroT (.slice none 0 0)) 29); have HC7 := Lib.hid hc7; clear hc7)
    | (refine wpList_store_row rfl 29 _ _ rfl w7.heap.size (cells5 y (.slice p7 y.l.length c7)) (by kernel_rfl) (by kernel_rfl) 29 (cells5 zeroT (.slice none 0 0)) hn7 (size28 _ _) (by kernel_rfl) (by kernel_rfl) ?_))
  have hb78 := below_setRow (g := w7.heap.size) (cells := cells5 y (.slice p7 y.l.length c7)) (alloc_below w7 (.cells (cells5 zeroT (.slice none 0 0)) 29)) (Nat.le_refl _)
  have hn8 := setRow_heap' (cells := cells5 y (.slice p7 y.l.length c7)) hn7
  have hy8 := hy7.below hb78
  change Code.wp _ _ _ _ ((w7.alloc (.cells (cells5 zeroT (.slice none 0 0)) 29)).setRow w7.heap.size (cells5 y (.slice p7 y.l.length c7)))
  have hB8 := hB7.trans (hb78.mono hB7.size)
  clear hn7 hb78 hy7 a0 a1 a2 a3 a4 d0 d1 d2 d3 d4 hn16
  generalize (w7.alloc (.cells (cells5 zeroT (.slice none 0 0)) 29)).setRow w7.heap.size (cells5 y (.slice p7 y.l.length c7)) = w8 at hn8 hB8 hy8 ⊢
  obtain ⟨b8, hbb⟩ : ∃ b, w7.heap.size = b := ⟨_, rfl⟩
  rw [hbb] at hn8 ⊢
  clear hbb
  have hn5 := (hB8.block _ HLT.out).trans HN2.out
  cases ok
  · have HE2 : Hid (valS x l = (zeroT, 93)) := by unfold Hid; rw [HE.out, HC7.out]; rfl
    go_wp2_with (refine wpList_store_row rfl 29 _ _ rfl (w.heap.size + 1) (cells5 zeroT (.slice none 0 0)) (by kernel_rfl) (by kernel_rfl) 29 (cells5 zeroT (.slice none 0 0)) hn5 (size28 _ _) (by kernel_rfl) (by kernel_rfl) ?_)
    have hr9 := setRow_heap' (cells := cells5 zeroT (.slice none 0 0)) hn5
    have hB9 := below_setRow (g := w.heap.size + 1) (cells := cells5 zeroT (.slice none 0 0)) (hb1.trans (hB8.mono hb1.size)) (by omega)
    exact bodyPost_ret (v := .tuple #[.agg (cells5 zeroT (.slice none 0 0)), .int .i64 93]) (results_term Tryz.results22 _ _ _ _ _ rfl hr9) rfl ⟨zeroT, _, 93, rfl, zero_trv _ _, hB9, HE2.out.symm⟩
  · have HE2 : Hid (valS x l = (y, 0)) := by unfold Hid; rw [HE.out, HC7.out]; rfl
    obtain ⟨d0, d1, d2, d3, d4⟩ := node_heap (x := y) hn8
    simp only [Nat.zero_add] at d1 d2 d3 d4
    go_wp2_with (refine wpList_store_row rfl 29 _ _ rfl (w.heap.size + 1) (cells5 y (.slice p7 y.l.length c7)) (by kernel_rfl) (by kernel_rfl) 29 (cells5 zeroT (.slice none 0 0)) hn5 (size28 _ _) (by kernel_rfl) (by kernel_rfl) ?_)
    have hr9 := setRow_heap' (cells := cells5 y (.slice p7 y.l.length c7)) hn5
    have hB9 := below_setRow (g := w.heap.size + 1) (cells := cells5 y (.slice p7 y.l.length c7)) (hb1.trans (hB8.mono hb1.size)) (by omega)
    have hy9 := hy8.move (P' := F) (w' := w8.setRow (w.heap.size + 1) (cells5 y (.slice p7 y.l.length c7))) (fun g hg _ => setRow_ne hg.2) (fun g hg _ => hg.1)
    exact bodyPost_ret (v := .tuple #[.agg (cells5 y (.slice p7 y.l.length c7)), .int .i64 0]) (results_term Tryz.results22 _ _ _ _ _ rfl hr9) rfl ⟨y, _, 0, rfl, hy9, hB9, HE2.out.symm⟩

set_option maxHeartbeats 8000000 in
set_option maxRecDepth 100000 in
theorem rtest1_any {F : Nat → Prop} {x xa : Tr} {l : List Bd} {w : World} {sv v : Value} (hx : TrV F w x sv) (hl : Binds F w v l) (hxl : x.l = [xa]) (hk : x.k = 12) (hg : xa.grd = true) (hm : gmayB l = true) (hnn : xa.nn ≤ 1048576) :
    Calls Tryz.prog 68 #[.agg #[.int .i8 x.k, .int .i64 x.n, .string x.s, .string x.t, sv], v] w fun e w' => e = .returned (.bool (hold1 x.s l xa)) ∧ Below w.heap.size w w' := by
  have HH := Lib.hid (show hold1 x.s l xa = match xa.gval l with | some a => (knL x.s).any fun u => a.k == u | none => false from rfl)
  have s12 : (x.k == 12) = true := by simpa using hk
  have hk0 : 0 < x.l.length := by rw [hxl]; simp
  have hxa : x.l[0] = xa := by simp [hxl]
  clear hxl hk
  obtain ⟨p, c, rfl⟩ := hx.kids.slice
  obtain ⟨pl, cl, rfl⟩ := hl.slice
  have hb1 := alloc_below w (.cells #[.int .i8 x.k, .int .i64 x.n, .string x.s, .string x.t, .slice p x.l.length c] 25)
  have n1 := heap_new w (.cells #[.int .i8 x.k, .int .i64 x.n, .string x.s, .string x.t, .slice p x.l.length c] 25)
  have HX := Lib.hid ((hx.mono (P' := fun _ => True) fun _ _ _ => trivial).below hb1)
  have HB := Lib.hid ((hl.mono (F' := fun _ => True) fun _ _ _ => trivial).under hb1)
  have HM := Lib.hid hm
  clear hx hl hm
  go_enter Tryz.func68, Tryz.ntmps68
  go_upto_region 1 with fail
  change Code.wp _ _ _ _ (w.alloc (.cells #[.int .i8 x.k, .int .i64 x.n, .string x.s, .string x.t, .slice p x.l.length c] 25))
  generalize w.alloc (.cells #[.int .i8 x.k, .int .i64 x.n, .string x.s, .string x.t, .slice p x.l.length c] 25) = w1 at n1 hb1 HX HB ⊢
  have HN1 := Lib.hid n1
  obtain ⟨g, o, kv, rfl, _, hnode, hkid⟩ := HX.out.kids.at hk0
  rw [hxa] at hnode hkid
  have cQ := rvalue_any xa l (fun _ => True) w1 kv (.slice pl l.length cl) (fun _ _ => trivial) hkid HB.out hg HM.out hnn
  obtain ⟨pk, ck, rfl⟩ := hkid.kids.slice
  have hk2 : ¬ x.l = [] := by intro h; rw [h] at hk0; simp at hk0
  have h0l : (0 : Int) < x.l.length := by omega
  obtain ⟨d0, d1, d2, d3, d4⟩ := hnode
  simp only [Nat.zero_mul, Nat.add_zero] at d0 d1 d2 d3 d4
  have a4 : w1.cell? ⟨w.heap.size, 4, none⟩ = some (.slice (some ⟨g, o, none⟩) x.l.length c) := (arr_cell n1).trans rfl
  obtain ⟨oo, hoo⟩ : ∃ oo, xa.gval l = oo := ⟨_, rfl⟩
  rw [hoo] at cQ HH
  clear hxa hkid n1 hg hnn hoo
  go_upto_region 2 with (first
    | (go_at_call 64; refine (cQ).mono ?_; rintro e w5 ⟨yA, yvA, okA, rfl, hyA, hbA, hqA⟩; obtain ⟨pA, cA, rfl⟩ := hyA.kids.slice; have hzA := heap_new w5 (.cells (cells5 zeroT (.slice none 0 0)) 29); have HQA := Lib.hid hqA; clear hqA)
    | (refine wpList_store_row rfl 29 _ _ rfl w5.heap.size (cells5 yA (.slice pA yA.l.length cA)) (by kernel_rfl) (by kernel_rfl) 29 (cells5 zeroT (.slice none 0 0)) hzA (size28 _ _) (by kernel_rfl) (by kernel_rfl) ?_))
  have hbmA := below_setRow (g := w5.heap.size) (cells := (cells5 yA (.slice pA yA.l.length cA))) (alloc_below w5 (.cells (cells5 zeroT (.slice none 0 0)) 29)) (Nat.le_refl _)
  have hnA := setRow_heap' (cells := (cells5 yA (.slice pA yA.l.length cA))) hzA
  have hyyA := hyA.below hbmA
  change Code.wp _ _ _ _ ((w5.alloc (.cells (cells5 zeroT (.slice none 0 0)) 29)).setRow w5.heap.size (cells5 yA (.slice pA yA.l.length cA)))
  have hB6 := ((Below.refl w1.heap.size w1).trans (hbA.mono (Below.refl w1.heap.size w1).size)).trans (hbmA.mono (Nat.le_trans (Below.refl w1.heap.size w1).size hbA.size))
  clear hzA hbmA hyA
  generalize (w5.alloc (.cells (cells5 zeroT (.slice none 0 0)) 29)).setRow w5.heap.size (cells5 yA (.slice pA yA.l.length cA)) = w6 at hnA hB6 hyyA ⊢
  obtain ⟨bA, hbb⟩ : ∃ b, w5.heap.size = b := ⟨_, rfl⟩
  rw [hbb] at hnA ⊢
  clear hbb
  have hn16 := (hB6.block _ (Array.getElem?_eq_some_iff.1 HN1.out).1).trans HN1.out
  have e0 : w6.cell? ⟨w.heap.size, 0, none⟩ = some (.int .i8 x.k) := (arr_cell hn16).trans rfl
  have e2 : w6.cell? ⟨w.heap.size, 2, none⟩ = some (.string x.s) := (arr_cell hn16).trans rfl
  clear hn16 d0 d1 d2 d3 d4 a4
  cases okA
  · have HE : Hid (hold1 x.s l xa = false) := by unfold Hid; rw [HH.out, HQA.out]; rfl
    go_wp2
    go_ret
    exact ⟨by rw [HE.out]; rfl, hb1.trans (hB6.mono hb1.size)⟩
  · have HE : Hid (hold1 x.s l xa = (knL x.s).any fun u => yA.k == u) := by unfold Hid; rw [HH.out, HQA.out]; rfl
    obtain ⟨f0, f1, f2, f3, f4⟩ := node_heap (x := yA) hnA
    simp only [Nat.zero_add] at f1 f2 f3 f4
    have cK := rkind11_any w6 x.s yA pA cA
    generalize (knL x.s).any (fun u => yA.k == u) = q at cK HE
    go_wp2_with (go_at_call 120; refine cK.mono ?_; rintro e w7 ⟨rfl, hb7⟩)
    go_ret
    exact ⟨by rw [HE.out]; rfl, hb1.trans ((hB6.trans (hb7.mono hB6.size)).mono hb1.size)⟩
def h2o (s : ByteArray) (o1 o2 : Option Tr) : Bool := match o1 with | some a => (match o2 with | some b => icB s (cmpT a b) | none => false) | none => false
set_option maxHeartbeats 8000000 in
set_option maxRecDepth 100000 in
theorem rtest2_any {F : Nat → Prop} {x xa xb : Tr} {l : List Bd} {w : World} {sv v : Value} (hx : TrV F w x sv) (hl : Binds F w v l) (hxl : x.l = [xa, xb]) (hk : x.k = 11) (hg : xa.grd = true) (hg2 : xb.grd = true) (hm : gmayB l = true) (hnn : xa.nn ≤ 1048576) (hnn2 : xb.nn ≤ 1048576) :
    Calls Tryz.prog 68 #[.agg #[.int .i8 x.k, .int .i64 x.n, .string x.s, .string x.t, sv], v] w fun e w' => e = .returned (.bool (hold2 x.s l xa xb)) ∧ Below w.heap.size w w' := by
  have HH := Lib.hid (show hold2 x.s l xa xb = h2o x.s (xa.gval l) (xb.gval l) from rfl)
  have s12 : (x.k == 12) = false := by rw [hk]; rfl
  have hk0 : 0 < x.l.length := by rw [hxl]; simp
  have hk1 : 1 < x.l.length := by rw [hxl]; simp
  have hxa : x.l[0] = xa := by simp [hxl]
  have hxb : x.l[1] = xb := by simp [hxl]
  clear hxl hk
  obtain ⟨p, c, rfl⟩ := hx.kids.slice
  obtain ⟨pl, cl, rfl⟩ := hl.slice
  have hb1 := alloc_below w (.cells #[.int .i8 x.k, .int .i64 x.n, .string x.s, .string x.t, .slice p x.l.length c] 25)
  have n1 := heap_new w (.cells #[.int .i8 x.k, .int .i64 x.n, .string x.s, .string x.t, .slice p x.l.length c] 25)
  have HX := Lib.hid ((hx.mono (P' := fun _ => True) fun _ _ _ => trivial).below hb1)
  have HB := Lib.hid ((hl.mono (F' := fun _ => True) fun _ _ _ => trivial).under hb1)
  have HM := Lib.hid hm
  clear hx hl hm
  go_enter Tryz.func68, Tryz.ntmps68
  go_upto_region 1 with fail
  change Code.wp _ _ _ _ (w.alloc (.cells #[.int .i8 x.k, .int .i64 x.n, .string x.s, .string x.t, .slice p x.l.length c] 25))
  generalize w.alloc (.cells #[.int .i8 x.k, .int .i64 x.n, .string x.s, .string x.t, .slice p x.l.length c] 25) = w1 at n1 hb1 HX HB ⊢
  have HN1 := Lib.hid n1
  obtain ⟨g, o, kv, rfl, _, hnode, hkid⟩ := HX.out.kids.at hk0
  obtain ⟨g', o', kw, hp', _, hnode2, hkid2⟩ := HX.out.kids.at hk1
  cases hp'
  rw [hxa] at hnode hkid
  rw [hxb] at hnode2 hkid2
  have cQ := rvalue_any xa l (fun _ => True) w1 kv (.slice pl l.length cl) (fun _ _ => trivial) hkid HB.out hg HM.out hnn
  have cR := fun (V : World) (hv : Below w1.heap.size w1 V) => rvalue_any xb l (fun _ => True) V kw (.slice pl l.length cl) (fun _ _ => trivial) (hkid2.below hv) (HB.out.under hv) hg2 HM.out hnn2
  obtain ⟨pk, ck, rfl⟩ := hkid.kids.slice
  obtain ⟨pk2, ck2, rfl⟩ := hkid2.kids.slice
  have hk2 : ¬ x.l = [] := by intro h; rw [h] at hk0; simp at hk0
  have h0l : (0 : Int) < x.l.length := by omega
  have h1l : (1 : Int) < x.l.length := by omega
  have HND2 := Lib.hid hnode2
  obtain ⟨d0, d1, d2, d3, d4⟩ := hnode
  simp only [Nat.zero_mul, Nat.add_zero] at d0 d1 d2 d3 d4
  have a4 : w1.cell? ⟨w.heap.size, 4, none⟩ = some (.slice (some ⟨g, o, none⟩) x.l.length c) := (arr_cell n1).trans rfl
  obtain ⟨oo, hoo⟩ : ∃ oo, xa.gval l = oo := ⟨_, rfl⟩
  rw [hoo] at cQ HH
  obtain ⟨o2, ho2⟩ : ∃ oo, xb.gval l = oo := ⟨_, rfl⟩
  rw [ho2] at cR HH
  clear hxa hxb hkid hkid2 n1 hg hg2 hnn hnn2 hoo ho2 hnode2
  go_upto_region 2 with (first
    | (go_at_call 64; refine (cQ).mono ?_; rintro e w5 ⟨yA, yvA, okA, rfl, hyA, hbA, hqA⟩; obtain ⟨pA, cA, rfl⟩ := hyA.kids.slice; have hzA := heap_new w5 (.cells (cells5 zeroT (.slice none 0 0)) 29); have HQA := Lib.hid hqA; clear hqA)
    | (refine wpList_store_row rfl 29 _ _ rfl w5.heap.size (cells5 yA (.slice pA yA.l.length cA)) (by kernel_rfl) (by kernel_rfl) 29 (cells5 zeroT (.slice none 0 0)) hzA (size28 _ _) (by kernel_rfl) (by kernel_rfl) ?_))
  have hbmA := below_setRow (g := w5.heap.size) (cells := (cells5 yA (.slice pA yA.l.length cA))) (alloc_below w5 (.cells (cells5 zeroT (.slice none 0 0)) 29)) (Nat.le_refl _)
  have hnA := setRow_heap' (cells := (cells5 yA (.slice pA yA.l.length cA))) hzA
  have hyyA := hyA.below hbmA
  change Code.wp _ _ _ _ ((w5.alloc (.cells (cells5 zeroT (.slice none 0 0)) 29)).setRow w5.heap.size (cells5 yA (.slice pA yA.l.length cA)))
  have hB6 := ((Below.refl w1.heap.size w1).trans (hbA.mono (Below.refl w1.heap.size w1).size)).trans (hbmA.mono (Nat.le_trans (Below.refl w1.heap.size w1).size hbA.size))
  clear hzA hbmA hyA
  generalize (w5.alloc (.cells (cells5 zeroT (.slice none 0 0)) 29)).setRow w5.heap.size (cells5 yA (.slice pA yA.l.length cA)) = w6 at hnA hB6 hyyA ⊢
  obtain ⟨bA, hbb⟩ : ∃ b, w5.heap.size = b := ⟨_, rfl⟩
  rw [hbb] at hnA ⊢
  clear hbb
  have hn16 := (hB6.block _ (Array.getElem?_eq_some_iff.1 HN1.out).1).trans HN1.out
  have e0 : w6.cell? ⟨w.heap.size, 0, none⟩ = some (.int .i8 x.k) := (arr_cell hn16).trans rfl
  have e4 : w6.cell? ⟨w.heap.size, 4, none⟩ = some (.slice (some ⟨g, o, none⟩) x.l.length c) := (arr_cell hn16).trans rfl
  obtain ⟨f0, f1, f2, f3, f4⟩ := HND2.out.keep (hB6.block _ HND2.out.lt)
  simp only [Nat.one_mul] at f0 f1 f2 f3 f4
  have HNA := Lib.hid hnA
  clear hn16 d0 d1 d2 d3 d4 a4 hnA
  cases okA
  · have HE : Hid (hold2 x.s l xa xb = false) := by unfold Hid; rw [HH.out, HQA.out]; rfl
    clear cR
    go_wp2
    go_ret
    exact ⟨by rw [HE.out]; rfl, hb1.trans (hB6.mono hb1.size)⟩
  have HH2 : Hid (hold2 x.s l xa xb = h2o x.s (some yA) o2) := by unfold Hid; rw [HH.out, HQA.out]; rfl
  have cR6 := cR _ hB6
  clear cR cQ
  go_upto_region 7 with (first
    | (go_at_call 64; refine (cR6).mono ?_; rintro e w7 ⟨yB, yvB, okB, rfl, hyB, hbB, hqB⟩; obtain ⟨pB, cB, rfl⟩ := hyB.kids.slice; have hzB := heap_new w7 (.cells (cells5 zeroT (.slice none 0 0)) 29); have HQB := Lib.hid hqB; clear hqB)
    | (refine wpList_store_row rfl 29 _ _ rfl w7.heap.size (cells5 yB (.slice pB yB.l.length cB)) (by kernel_rfl) (by kernel_rfl) 29 (cells5 zeroT (.slice none 0 0)) hzB (size28 _ _) (by kernel_rfl) (by kernel_rfl) ?_))
  have hbmB := below_setRow (g := w7.heap.size) (cells := (cells5 yB (.slice pB yB.l.length cB))) (alloc_below w7 (.cells (cells5 zeroT (.slice none 0 0)) 29)) (Nat.le_refl _)
  have hnB := setRow_heap' (cells := (cells5 yB (.slice pB yB.l.length cB))) hzB
  have hyyB := hyB.below hbmB
  change Code.wp _ _ _ _ ((w7.alloc (.cells (cells5 zeroT (.slice none 0 0)) 29)).setRow w7.heap.size (cells5 yB (.slice pB yB.l.length cB)))
  have hB68 := ((Below.refl w6.heap.size w6).trans (hbB.mono (Below.refl w6.heap.size w6).size)).trans (hbmB.mono (Nat.le_trans (Below.refl w6.heap.size w6).size hbB.size))
  clear hzB hbmB hyB
  generalize (w7.alloc (.cells (cells5 zeroT (.slice none 0 0)) 29)).setRow w7.heap.size (cells5 yB (.slice pB yB.l.length cB)) = w8 at hnB hB68 hyyB ⊢
  obtain ⟨bB, hbb⟩ : ∃ b, w7.heap.size = b := ⟨_, rfl⟩
  rw [hbb] at hnB ⊢
  clear hbb
  have hB8 := hB6.trans (hB68.mono hB6.size)
  clear e0 e4 f0 f1 f2 f3 f4
  cases okB
  · have HE : Hid (hold2 x.s l xa xb = false) := by unfold Hid; rw [HH2.out, HQB.out]; rfl
    go_wp2
    go_ret
    exact ⟨by rw [HE.out]; rfl, hb1.trans (hB8.mono hb1.size)⟩
  have HE : Hid (hold2 x.s l xa xb = icB x.s (cmpT yA yB)) := by unfold Hid; rw [HH2.out, HQB.out]; rfl
  have HNB := Lib.hid hnB
  have hmv : ∀ V : World, Below w8.heap.size w8 V → V.cell? ⟨w.heap.size, 2, none⟩ = some (.string x.s) ∧ V.cell? ⟨bA, 0, none⟩ = some (.int .i8 yA.k) ∧ V.cell? ⟨bA, 1, none⟩ = some (.int .i64 yA.n) ∧ V.cell? ⟨bA, 2, none⟩ = some (.string yA.s) ∧ V.cell? ⟨bA, 3, none⟩ = some (.string yA.t) ∧ V.cell? ⟨bA, 4, none⟩ = some (.slice pA yA.l.length cA) ∧ V.cell? ⟨bB, 0, none⟩ = some (.int .i8 yB.k) ∧ V.cell? ⟨bB, 1, none⟩ = some (.int .i64 yB.n) ∧ V.cell? ⟨bB, 2, none⟩ = some (.string yB.s) ∧ V.cell? ⟨bB, 3, none⟩ = some (.string yB.t) ∧ V.cell? ⟨bB, 4, none⟩ = some (.slice pB yB.l.length cB) := by
    intro V hv
    have hn18 := (hB8.block _ (Array.getElem?_eq_some_iff.1 HN1.out).1).trans HN1.out
    have hnA8 := (hB68.block _ (Array.getElem?_eq_some_iff.1 HNA.out).1).trans HNA.out
    have h0 := (hv.block _ (Array.getElem?_eq_some_iff.1 hn18).1).trans hn18
    have h1 := (hv.block _ (Array.getElem?_eq_some_iff.1 hnA8).1).trans hnA8
    have h2 := (hv.block _ (Array.getElem?_eq_some_iff.1 HNB.out).1).trans HNB.out
    exact ⟨(arr_cell h0).trans rfl, (arr_cell h1).trans rfl, (arr_cell h1).trans rfl, (arr_cell h1).trans rfl, (arr_cell h1).trans rfl, (arr_cell h1).trans rfl, (arr_cell h2).trans rfl, (arr_cell h2).trans rfl, (arr_cell h2).trans rfl, (arr_cell h2).trans rfl, (arr_cell h2).trans rfl⟩
  have hbd : Below w8.heap.size w8 w8.drew := below_drewN (Below.refl _ _) 1
  have hS0 := hmv w8 (Below.refl _ _)
  have cC := rCompare_any ((hyyA.below hB68).below hbd) (hyyB.below hbd)
  generalize cmpT yA yB = cc at cC HE
  clear hnB hyyA hyyB
  go_upto_region 9 with fail
  refine wp_region_held_drew (S := fun V => V.cell? ⟨w.heap.size, 2, none⟩ = some (.string x.s) ∧ V.cell? ⟨bA, 0, none⟩ = some (.int .i8 yA.k) ∧ V.cell? ⟨bA, 1, none⟩ = some (.int .i64 yA.n) ∧ V.cell? ⟨bA, 2, none⟩ = some (.string yA.s) ∧ V.cell? ⟨bA, 3, none⟩ = some (.string yA.t) ∧ V.cell? ⟨bA, 4, none⟩ = some (.slice pA yA.l.length cA) ∧ V.cell? ⟨bB, 0, none⟩ = some (.int .i8 yB.k) ∧ V.cell? ⟨bB, 1, none⟩ = some (.int .i64 yB.n) ∧ V.cell? ⟨bB, 2, none⟩ = some (.string yB.s) ∧ V.cell? ⟨bB, 3, none⟩ = some (.string yB.t) ∧ V.cell? ⟨bB, 4, none⟩ = some (.slice pB yB.l.length cB)) (by kernel_rfl) ?_ (fun hHeld => ?_)
  · (try dsimp only); (first | exact hS0 | exact hS2)
  refine wpAnyH_take (i := 0) (v := ?_) rfl (by kernel_rfl) (by kernel_rfl) (by kernel_rfl) (fun _ _ _ h => h) (Or.inl ⟨by rfl, ?_⟩) (by assumption) ?_
  rotate_left 1
  (intro w hSw; (try dsimp only at hSw); go_simp; try with_reducible rfl)
  (try simp only [List.getElem_toArray, List.getElem_cons_zero, Act.put, List.setIfInBounds_toArray, List.set_cons_zero, List.set_cons_succ])
  refine wpAnyH_take (i := 1) (v := ?_) rfl (by kernel_rfl) (by kernel_rfl) (by kernel_rfl) (fun _ _ _ h => h) (Or.inl ⟨by rfl, ?_⟩) (by assumption) ?_
  rotate_left 1
  (intro w hSw; (try dsimp only at hSw); go_simp; try with_reducible rfl)
  (try simp only [List.getElem_toArray, List.getElem_cons_succ, List.getElem_cons_zero, Act.put, List.setIfInBounds_toArray, List.set_cons_zero, List.set_cons_succ])
  refine wpAnyH_take (i := 2) (v := ?_) rfl (by kernel_rfl) (by kernel_rfl) (by kernel_rfl) (fun _ _ _ h => h) (Or.inl ⟨by rfl, ?_⟩) (by assumption) ?_
  rotate_left 1
  (intro w hSw; (try dsimp only at hSw); go_simp; try with_reducible rfl)
  (try simp only [List.getElem_toArray, List.getElem_cons_succ, List.getElem_cons_zero, Act.put, List.setIfInBounds_toArray, List.set_cons_zero, List.set_cons_succ])
  refine wpAnyH_take (i := 3) (v := ?_) rfl (by kernel_rfl) (by kernel_rfl) (by kernel_rfl) (fun _ _ _ h => h) (Or.inl ⟨by rfl, ?_⟩) (by assumption) ?_
  rotate_left 1
  (intro w hSw; (try dsimp only at hSw); go_simp; try with_reducible rfl)
  (try simp only [List.getElem_toArray, List.getElem_cons_succ, List.getElem_cons_zero, Act.put, List.setIfInBounds_toArray, List.set_cons_zero, List.set_cons_succ])
  refine wpAnyH_ready (rs := [4]) (by kernel_rfl) (by simp) ?_
  refine AllReadyH.cons rfl (fun K hK => ?_) AllReadyH.nil
  go_simp
  go_wp2_with (first | (go_at_call 122; refine cC.mono ?_; rintro e w9 ⟨rfl, hb9⟩; have hb89 := hbd.trans (hb9.mono hbd.size); have hS2 := hmv _ hb89) | (go_at_call 121; refine (rcompare_any _ _ _).mono ?_; rintro e w10 ⟨rfl, rfl⟩))
  refine hK.out _ _ ?_ (fun hHeld => ?_)
  · (try dsimp only); (first | exact hS0 | exact hS2)
  clear hK K
  (try simp only [List.getElem_toArray, List.getElem_cons_succ, List.getElem_cons_zero, Act.put, List.setIfInBounds_toArray, List.set_cons_zero, List.set_cons_succ])
  refine wpAnyH_ready (rs := [5]) (by kernel_rfl) (by simp) ?_
  refine AllReadyH.cons rfl (fun K hK => ?_) AllReadyH.nil
  go_simp
  go_wp2_with (first | (go_at_call 122; refine cC.mono ?_; rintro e w9 ⟨rfl, hb9⟩; have hb89 := hbd.trans (hb9.mono hbd.size); have hS2 := hmv _ hb89) | (go_at_call 121; refine (rcompare_any _ _ _).mono ?_; rintro e w10 ⟨rfl, rfl⟩))
  refine hK.out _ _ ?_ (fun hHeld => ?_)
  · (try dsimp only); (first | exact hS0 | exact hS2)
  clear hK K
  (try simp only [List.getElem_toArray, List.getElem_cons_succ, List.getElem_cons_zero, Act.put, List.setIfInBounds_toArray, List.set_cons_zero, List.set_cons_succ])
  refine wpAnyH_take (i := 6) (v := ?_) rfl (by kernel_rfl) (by kernel_rfl) (by kernel_rfl) (fun _ _ _ h => h) (Or.inl ⟨by rfl, ?_⟩) (by assumption) ?_
  rotate_left 1
  (intro w hSw; (try dsimp only at hSw); go_simp; try with_reducible rfl)
  (try simp only [List.getElem_toArray, List.getElem_cons_succ, List.getElem_cons_zero, Act.put, List.setIfInBounds_toArray, List.set_cons_zero, List.set_cons_succ])
  refine wpAnyH_take (i := 7) (v := ?_) rfl (by kernel_rfl) (by kernel_rfl) (by kernel_rfl) (fun _ _ _ h => h) (Or.inl ⟨by rfl, ?_⟩) (by assumption) ?_
  rotate_left 1
  (intro w hSw; (try dsimp only at hSw); go_simp; try with_reducible rfl)
  (try simp only [List.getElem_toArray, List.getElem_cons_succ, List.getElem_cons_zero, Act.put, List.setIfInBounds_toArray, List.set_cons_zero, List.set_cons_succ])
  refine wpAnyH_take (i := 8) (v := ?_) rfl (by kernel_rfl) (by kernel_rfl) (by kernel_rfl) (fun _ _ _ h => h) (Or.inl ⟨by rfl, ?_⟩) (by assumption) ?_
  rotate_left 1
  (intro w hSw; (try dsimp only at hSw); go_simp; try with_reducible rfl)
  (try simp only [List.getElem_toArray, List.getElem_cons_succ, List.getElem_cons_zero, Act.put, List.setIfInBounds_toArray, List.set_cons_zero, List.set_cons_succ])
  refine wpAnyH_take (i := 9) (v := ?_) rfl (by kernel_rfl) (by kernel_rfl) (by kernel_rfl) (fun _ _ _ h => h) (Or.inl ⟨by rfl, ?_⟩) (by assumption) ?_
  rotate_left 1
  (intro w hSw; (try dsimp only at hSw); go_simp; try with_reducible rfl)
  (try simp only [List.getElem_toArray, List.getElem_cons_succ, List.getElem_cons_zero, Act.put, List.setIfInBounds_toArray, List.set_cons_zero, List.set_cons_succ])
  refine wpAnyH_take (i := 10) (v := ?_) rfl (by kernel_rfl) (by kernel_rfl) (by kernel_rfl) (fun _ _ _ h => h) (Or.inl ⟨by rfl, ?_⟩) (by assumption) ?_
  rotate_left 1
  (intro w hSw; (try dsimp only at hSw); go_simp; try with_reducible rfl)
  (try simp only [List.getElem_toArray, List.getElem_cons_succ, List.getElem_cons_zero, Act.put, List.setIfInBounds_toArray, List.set_cons_zero, List.set_cons_succ])
  refine wpAnyH_done (by kernel_rfl) ?_ _
  go_wp2_with fail
  go_ret
  exact ⟨by rw [HE.out]; rfl, hb1.trans ((hB8.trans (hb89.mono hB8.size)).mono hb1.size)⟩

theorem rtest11_any {F : Nat → Prop} {x : Tr} {l : List Bd} {w : World} {sv v : Value} (hx : TrV F w x sv) (hl : Binds F w v l) (ht : tstB x = true) (hm : gmayB l = true) (hnn : x.nn ≤ 1048576) :
    Calls Tryz.prog 68 #[.agg #[.int .i8 x.k, .int .i64 x.n, .string x.s, .string x.t, sv], v] w fun e w' => e = .returned (.bool (holdS l x)) ∧ Below w.heap.size w w' := by
  rcases tst_kinds ht with ⟨xa, h1, h2, _, h4⟩ | ⟨xa, xb, h1, h2, _, h4, h5⟩
  · have e : holdS l x = hold1 x.s l xa := by unfold holdS; rw [if_pos h1, h2]; rfl
    rw [e]
    exact rtest1_any hx hl h2 h1 h4 hm (by have := nn_kid (x := x) (y := xa) (by rw [h2]; simp); omega)
  · have e : holdS l x = hold2 x.s l xa xb := by unfold holdS; rw [if_neg (by omega), h2]; rfl
    rw [e]
    exact rtest2_any hx hl h2 h1 h4 h5 hm (by have := nn_kid (x := x) (y := xa) (by rw [h2]; simp); omega) (by have := nn_kid (x := x) (y := xb) (by rw [h2]; simp); omega)

set_option maxHeartbeats 4000000 in
set_option maxRecDepth 100000 in
theorem rTest_any {F G : Nat → Prop} {x : Tr} {l : List Bd} {w : World} {sv v : Value} (hx : TrV F w x sv) (hl : Binds G w v l) :
    Calls Tryz.prog 26 #[.agg #[.int .i8 x.k, .int .i64 x.n, .string x.s, .string x.t, sv], v] w fun e w' => e = .returned (.bool (testS x l)) ∧ Below w.heap.size w w' := by
  obtain ⟨p, c, rfl⟩ := hx.kids.slice
  obtain ⟨pl, cl, rfl⟩ := hl.slice
  obtain ⟨e0, e1, e2, e3, e4⟩ := box5 w (.int .i8 x.k) (.int .i64 x.n) (.string x.s) (.string x.t) (.slice p x.l.length c) 25
  have hb1 := alloc_below w (.cells #[.int .i8 x.k, .int .i64 x.n, .string x.s, .string x.t, .slice p x.l.length c] 25)
  have HX := Lib.hid ((hx.mono (P' := fun _ => True) fun _ _ _ => trivial).below hb1)
  have HB := Lib.hid ((hl.mono (F' := fun _ => True) fun _ _ _ => trivial).under hb1)
  have HV := Lib.hid (show testS x l = (tstC x && (gmayB l && holdS l x)) from rfl)
  have cT := nTestF_any HX.out
  have cM := fun (V : World) hb => rmay11_any (HB.out.under (w' := V) hb)
  clear hx hl
  cases ht : tstC x
  case false =>
    rw [ht] at cT HV
    clear ht cM
    go_enter Tryz.func26, Tryz.ntmps26
    go_wp2_with (go_at_call 67; refine cT.mono ?_; rintro e w2 ⟨rfl, hb2⟩)
    go_ret
    exact ⟨by rw [HV.out]; rfl, hb1.trans (hb2.mono hb1.size)⟩
  rw [ht] at cT HV
  cases hm : gmayB l
  case false =>
    rw [hm] at cM HV
    clear ht hm
    go_enter Tryz.func26, Tryz.ntmps26
    go_wp2_with (first
      | (go_at_call 67; refine cT.mono ?_; rintro e w2 ⟨rfl, hb2⟩)
      | (go_at_call 15; refine (cM _ hb2).mono ?_; rintro e w3 ⟨rfl, hb3⟩))
    go_ret
    exact ⟨by rw [HV.out]; rfl, hb1.trans ((hb2.trans (hb3.mono hb2.size)).mono hb1.size)⟩
  rw [hm] at cM HV
  have h2 : fitsB x = true ∧ tstB x = true := by simpa [tstC] using ht
  have hnn := fits_nn h2.1
  have cH := fun (V : World) hb => rtest11_any (HX.out.below (w' := V) hb) (HB.out.under hb) h2.2 hm (by omega)
  clear ht hm h2 hnn
  generalize holdS l x = q at cH HV
  go_enter Tryz.func26, Tryz.ntmps26
  go_wp2_with (first
    | (go_at_call 67; refine cT.mono ?_; rintro e w2 ⟨rfl, hb2⟩)
    | (go_at_call 15; refine (cM _ hb2).mono ?_; rintro e w3 ⟨rfl, hb3⟩; have hB3 := hb2.trans (hb3.mono hb2.size); obtain ⟨k0, k1, k2, k3, k4⟩ := keep5 hB3 e0 e1 e2 e3 e4)
    | (go_at_call 68; refine (cH _ hB3).mono ?_; rintro e w4 ⟨rfl, hb4⟩))
  go_ret
  exact ⟨by rw [HV.out]; simp, hb1.trans ((hB3.trans (hb4.mono hB3.size)).mono hb1.size)⟩
set_option maxHeartbeats 4000000 in
set_option maxRecDepth 100000 in
theorem rHolds_any {F G : Nat → Prop} {x : Tr} {l : List Bd} {w : World} {sv v : Value} (hx : TrV F w x sv) (hl : Binds G w v l) :
    Calls Tryz.prog 27 #[.agg #[.int .i8 x.k, .int .i64 x.n, .string x.s, .string x.t, sv], v] w fun e w' => e = .returned (.bool (hldS x l)) ∧ Below w.heap.size w w' := by
  obtain ⟨p, c, rfl⟩ := hx.kids.slice
  obtain ⟨pl, cl, rfl⟩ := hl.slice
  obtain ⟨e0, e1, e2, e3, e4⟩ := box5 w (.int .i8 x.k) (.int .i64 x.n) (.string x.s) (.string x.t) (.slice p x.l.length c) 25
  have hb1 := alloc_below w (.cells #[.int .i8 x.k, .int .i64 x.n, .string x.s, .string x.t, .slice p x.l.length c] 25)
  have HX := Lib.hid ((hx.mono (P' := fun _ => True) fun _ _ _ => trivial).below hb1)
  have HB := Lib.hid ((hl.mono (F' := fun _ => True) fun _ _ _ => trivial).under hb1)
  have HV := Lib.hid (show hldS x l = (gdB x && (gmayB l && x.l.all (holdS l))) from rfl)
  have cT := nGuardF_any HX.out
  have cM := fun (V : World) hb => rmay11_any (HB.out.under (w' := V) hb)
  have hlen : x.l.length ≤ 2199023255552 := hx.kids.len
  clear hx hl
  cases ht : gdB x
  case false =>
    rw [ht] at cT HV
    clear ht cM
    go_enter Tryz.func27, Tryz.ntmps27
    go_wp2_with (go_at_call 14; refine cT.mono ?_; rintro e w2 ⟨rfl, hb2⟩)
    go_ret
    exact ⟨by rw [HV.out]; rfl, hb1.trans (hb2.mono hb1.size)⟩
  rw [ht] at cT HV
  cases hm : gmayB l
  case false =>
    rw [hm] at cM HV
    clear ht hm
    go_enter Tryz.func27, Tryz.ntmps27
    go_wp2_with (first
      | (go_at_call 14; refine cT.mono ?_; rintro e w2 ⟨rfl, hb2⟩)
      | (go_at_call 15; refine (cM _ hb2).mono ?_; rintro e w3 ⟨rfl, hb3⟩))
    go_ret
    exact ⟨by rw [HV.out]; rfl, hb1.trans ((hb2.trans (hb3.mono hb2.size)).mono hb1.size)⟩
  rw [hm] at cM HV
  have h2 : fitsB x = true ∧ x.l.all tstB = true := by
    unfold gdB gdI at ht
    simp only [Bool.and_eq_true] at ht
    exact ⟨ht.1, ht.2.2.2⟩
  have hnn := fits_nn h2.1
  have HT := Lib.hid h2.2
  have HM := Lib.hid hm
  have HNN := Lib.hid hnn
  have HP : Hid (hldS x l = x.l.all (holdS l)) := by unfold Hid; rw [HV.out]; simp
  clear ht hm h2 hnn
  go_enter Tryz.func27, Tryz.ntmps27
  go_wp2_with (first
    | (go_at_call 14; refine cT.mono ?_; rintro e w2 ⟨rfl, hb2⟩)
    | (go_at_call 15; refine (cM _ hb2).mono ?_; rintro e w3 ⟨rfl, hb3⟩; have hB3 := hb2.trans (hb3.mono hb2.size); have k4 := (hB3.cell (p := ⟨w.heap.size, 4, none⟩) (cell_block e4)).trans e4))
  have hW3 : Below w.heap.size w w3 := hb1.trans (hB3.mono hb1.size)
  have HX3 := Lib.hid (HX.out.below hB3)
  have HB3 := Lib.hid (HB.out.under hB3)
  clear e0 e1 e2 e3 e4 hb1 hb2 hb3 hB3 HX HB cT cM
  go_loopw [5] (fun i wr => ∃ k : Nat, k ≤ x.l.length ∧ i = .int .i64 k ∧ (x.l.take k).all (holdS l) = true ∧ Below w3.heap.size w3 wr) (fun i _ => x.l.length - (intOf i).toNat)
  case atStart => exact ⟨0, Nat.zero_le _, rfl, rfl, Below.refl _ _⟩
  case round =>
    obtain ⟨k, hk, rfl, hall, hbr⟩ := hrel
    have hxr := HX3.out.below hbr
    have hbw := hW3.trans (hbr.mono hW3.size)
    have e4r := (hbr.cell (p := ⟨w.heap.size, 4, none⟩) (cell_block k4)).trans k4
    by_cases hlt : k < x.l.length
    · obtain ⟨g, o, kv, rfl, _, hnode, hkid⟩ := hxr.kids.at hlt
      have cK := rtest11_any hkid (HB3.out.under hbr) (List.all_eq_true.1 HT.out _ (List.getElem_mem hlt)) HM.out (by have := nn_kid (List.getElem_mem hlt); have := HNN.out; omega)
      obtain ⟨c0, c1, c2', c3, c4⟩ := hnode
      have HALL := Lib.hid hall
      cases hq : holdS l x.l[k]
      · rw [hq] at cK
        have HN : Hid (x.l.all (holdS l) = false) := by
          unfold Hid; rw [List.all_eq_false]; exact ⟨x.l[k], List.getElem_mem hlt, by rw [hq]; simp⟩
        clear hkid hxr hall hq k4
        go_wp2_with (go_at_call 68; refine cK.mono ?_; rintro e w5 ⟨rfl, hb5⟩)
        go_ret
        exact ⟨by rw [HP.out, HN.out]; rfl, hbw.trans (hb5.mono hbw.size)⟩
      · rw [hq] at cK
        have HN : Hid ((x.l.take (k + 1)).all (holdS l) = true) := by unfold Hid; rw [List.take_succ_eq_append_getElem hlt, List.all_append, HALL.out]; simp [hq]
        clear hkid hxr hall hq k4
        go_wp2_with (go_at_call 68; refine cK.mono ?_; rintro e w5 ⟨rfl, hb5⟩)
        go_roundw
        case rel => exact ⟨k + 1, hlt, by go_num, HN.out, hbr.trans (hb5.mono hbr.size)⟩
        case measure => simp [intOf]; omega
    · rw [List.take_of_length_le (by omega)] at hall
      have HN := Lib.hid hall
      clear hall hxr k4
      go_wp2
      go_ret
      exact ⟨by rw [HP.out, HN.out]; rfl, hbw⟩
end Go.Proofs.YtlhobpknflobgaaGreatDoor
