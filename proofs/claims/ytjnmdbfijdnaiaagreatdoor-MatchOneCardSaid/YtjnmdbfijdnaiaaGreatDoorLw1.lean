/-
  pleachlaw10.Great, v, two; pleachref03.Int. Conditions: the names lie as 'Binds' says.
-/
import Derived.Test.YtjnmdbfijdnaiaaGreatDoorRg3
namespace Go.Proofs.YtjnmdbfijdnaiaaGreatDoor
open Go.RowKit

def eS : ByteArray := ⟨#[]⟩
def iT (n : Int) : Tr := .mk 0 n eS eS []
def vT (s : ByteArray) : Tr := .mk 5 0 s eS []
def twoT (a b : Int) : Tr := .mk 5 0 eS eS [iT a, iT b]
/-- Names that are too many, or too great. -/
def greatB (l : List Bd) : Bool := decide (200 < l.length) || l.any fun b => decide (1024 ≤ b.t.sz 1024)

set_option maxHeartbeats 2000000 in
set_option maxRecDepth 100000 in
theorem greatL_any {F : Nat → Prop} {w : World} {v : Value} {l : List Bd} (hl : Binds F w v l) :
    Calls Tryz.prog 7 #[v] w fun e w' => e = .returned (.bool (greatB l)) ∧ Below w.heap.size w w' := by
  have hlen : l.length ≤ 2199023255552 := hl.len
  obtain ⟨p, c, rfl⟩ := hl.slice
  have HL := Lib.hid hl
  have HM := Lib.hid (show greatB l = (decide (200 < l.length) || l.any fun b => decide (1024 ≤ b.t.sz 1024)) from rfl)
  clear hl
  by_cases h : (200 : Int) < l.length
  · go_enter Tryz.func7, Tryz.ntmps7
    go_wp2_with fail
    go_ret
    exact ⟨by rw [HM.out, decide_eq_true (by omega)]; rfl, Below.refl _ _⟩
  have HM2 := Lib.hid (HM.out.trans (by rw [decide_eq_false (by omega)]; rfl : _ = l.any fun b => decide (1024 ≤ b.t.sz 1024)))
  clear HM
  go_enter Tryz.func7, Tryz.ntmps7
  go_wp2_with fail
  go_loopw [3] (fun i wr => ∃ k : Nat, k ≤ l.length ∧ i = .int .i64 k ∧ (l.take k).any (fun b => decide (1024 ≤ b.t.sz 1024)) = false ∧ Below w.heap.size w wr) (fun i _ => l.length - (intOf i).toNat)
  case atStart => exact ⟨0, Nat.zero_le _, rfl, rfl, Below.refl _ _⟩
  case round =>
    obtain ⟨k, hk, rfl, hall, hbr⟩ := hrel
    by_cases hlt : k < l.length
    · obtain ⟨g, o, kv, rfl, _, hs0, hsz, ⟨a0, a1, a2, a3, a4⟩, hkid⟩ := (HL.out.under hbr).at hlt
      have cG := greatT_any hkid
      have hstop : decide (1024 ≤ l[k].t.sz 1024) = true → Hid (greatB l = true) := fun h => by
        unfold Hid; rw [HM2.out]; exact any_at hlt h
      have hnext : decide (1024 ≤ l[k].t.sz 1024) = false → Hid ((l.take (k + 1)).any (fun b => decide (1024 ≤ b.t.sz 1024)) = false) := fun h => any_take (P := fun b : Bd => decide (1024 ≤ b.t.sz 1024)) hlt hall h
      clear hall hkid
      generalize decide (1024 ≤ l[k].t.sz 1024) = q at cG hstop hnext
      cases q
      · have HN := hnext rfl
        clear hstop hnext
        go_wp2_with (go_at_call 6; refine cG.mono ?_; rintro e w5 ⟨rfl, hb5⟩)
        go_roundw
        case rel => exact ⟨k + 1, hlt, by go_num, HN.out, hbr.trans (hb5.mono hbr.size)⟩
        case measure => simp [intOf]; omega
      · have HS := hstop rfl
        clear hstop hnext
        go_wp2_with (go_at_call 6; refine cG.mono ?_; rintro e w5 ⟨rfl, hb5⟩)
        go_ret
        exact ⟨by rw [HS.out]; rfl, hbr.trans (hb5.mono hbr.size)⟩
    · rw [List.take_of_length_le (by omega)] at hall
      have HN : Hid (greatB l = false) := by unfold Hid; rw [HM2.out, hall]
      clear hall
      go_wp2
      go_ret
      exact ⟨by rw [HN.out]; rfl, hbr⟩

theorem size25 (x : Tr) (sv : Value) : (Tryz.prog.info? 25).map (·.size) = some (cells5 x sv).size := by kernel_rfl

set_option maxHeartbeats 1000000 in
set_option maxRecDepth 100000 in
theorem v_any (w : World) (s : ByteArray) : Calls Tryz.prog 22 #[.string s] w fun e w' => e = .returned (.agg #[.int .i8 5, .int .i64 0, .string s, .string ⟨#[]⟩, .slice none 0 0]) ∧ Below w.heap.size w w' := by
  have hn : (w.alloc (.cells #[.int .i8 0, .int .i64 0, .string ⟨#[]⟩, .string ⟨#[]⟩, .slice none 0 0] 25)).heap[w.heap.size]? = some (.cells (cells5 zeroT (.slice none 0 0)) 25 (0, 0)) := heap_new w _
  have hb := alloc_below w (.cells #[.int .i8 0, .int .i64 0, .string ⟨#[]⟩, .string ⟨#[]⟩, .slice none 0 0] 25)
  go_enter Tryz.func22, Tryz.ntmps22
  go_upto_region 1 with fail
  generalize w.alloc (.cells #[.int .i8 0, .int .i64 0, .string ⟨#[]⟩, .string ⟨#[]⟩, .slice none 0 0] 25) = w1 at hn hb ⊢
  have hr := setRow_heap' (cells := cells5 (vT s) (.slice none 0 0)) hn
  have hB := below_setRow (cells := cells5 (vT s) (.slice none 0 0)) hb (Nat.le_refl _)
  go_wp2_with (refine wpList_store_row rfl 25 _ _ rfl w.heap.size (cells5 (vT s) (.slice none 0 0)) (by kernel_rfl) (by kernel_rfl) 25 (cells5 zeroT (.slice none 0 0)) hn (size25 _ _) (by kernel_rfl) (by kernel_rfl) ?_)
  refine bodyPost_ret (v := .agg (cells5 (vT s) (.slice none 0 0))) (results_cell_row Tryz.results22 _ _ w.heap.size 25 (cells5 (vT s) (.slice none 0 0)) (0, 0) _ rfl hr Tryz.underlying25 rfl (size25 _ _)) rfl ⟨rfl, hB⟩
set_option maxHeartbeats 1000000 in
set_option maxRecDepth 100000 in
theorem int_any (w : World) (n : Int) : Calls Tryz.prog 44 #[.int .i64 n] w fun e w' => e = .returned (.agg #[.int .i8 0, .int .i64 n, .string ⟨#[]⟩, .string ⟨#[]⟩, .slice none 0 0]) ∧ Below w.heap.size w w' := by
  have hn : (w.alloc (.cells #[.int .i8 0, .int .i64 0, .string ⟨#[]⟩, .string ⟨#[]⟩, .slice none 0 0] 28)).heap[w.heap.size]? = some (.cells (cells5 zeroT (.slice none 0 0)) 28 (0, 0)) := heap_new w _
  have hb := alloc_below w (.cells #[.int .i8 0, .int .i64 0, .string ⟨#[]⟩, .string ⟨#[]⟩, .slice none 0 0] 28)
  go_enter Tryz.func44, Tryz.ntmps44
  go_upto_region 1 with fail
  generalize w.alloc (.cells #[.int .i8 0, .int .i64 0, .string ⟨#[]⟩, .string ⟨#[]⟩, .slice none 0 0] 28) = w1 at hn hb ⊢
  have hr := setRow_heap' (cells := cells5 (iT n) (.slice none 0 0)) hn
  have hB := below_setRow (cells := cells5 (iT n) (.slice none 0 0)) hb (Nat.le_refl _)
  go_wp2_with (refine wpList_store_row rfl 28 _ _ rfl w.heap.size (cells5 (iT n) (.slice none 0 0)) (by kernel_rfl) (by kernel_rfl) 28 (cells5 zeroT (.slice none 0 0)) hn (size28 _ _) (by kernel_rfl) (by kernel_rfl) ?_)
  refine bodyPost_ret (v := .agg (cells5 (iT n) (.slice none 0 0))) (results_cell_row Tryz.results44 _ _ w.heap.size 28 (cells5 (iT n) (.slice none 0 0)) (0, 0) _ rfl hr Tryz.underlying28 rfl (size28 _ _)) rfl ⟨rfl, hB⟩

theorem setRow_other {X : World} {g i : Nat} {cells : Array Value} (h : i ≠ g) : (X.setRow g cells).heap[i]? = X.heap[i]? := by
  simp [World.setRow, Array.getElem?_modify]
  omega
theorem wf_small (k n : Int) (s t : ByteArray) (l : List Tr) (h1 : (Lit.int .i8 k).wf = true) (h2 : (Lit.int .i64 n).wf = true) (h3 : s.size ≤ 64) (h4 : t.size ≤ 64) : NodeWf (.mk k n s t l) := ⟨h1, h2, by show s.size ≤ _; unfold BL; omega, by show t.size ≤ _; unfold BL; omega⟩
theorem kids_two {F : Nat → Prop} {w : World} {g : Nat} {x y : Tr} {sv tv : Value} (hx : NodeAt w g 0 x sv) (hy : NodeAt w g 5 y tv) (hxv : TrV F w x sv) (hyv : TrV F w y tv) (hg : F g) : Kids F w (.slice (some ⟨g, 0, none⟩) 2 2) [x, y] :=
  .mk _ 2 [x, y] (fun i => if i = 0 then sv else tv) (Nat.le_refl _) (by simp [BL])
    (fun i hi => match i, hi with | 0, _ => hxv.wf | 1, _ => hyv.wf)
    (fun i hi => match i, hi with | 0, _ => ⟨g, 0, rfl, hg, hx⟩ | 1, _ => ⟨g, 0, rfl, hg, hy⟩)
    (fun i hi => match i, hi with | 0, _ => hxv.kids | 1, _ => hyv.kids)

set_option maxHeartbeats 2000000 in
set_option maxRecDepth 100000 in
theorem two_any (w : World) (a b : Int) (ha : (Lit.int .i64 a).wf = true) (hb' : (Lit.int .i64 b).wf = true) : Calls Tryz.prog 23 #[.int .i64 a, .int .i64 b] w fun e w' => ∃ sv, e = .returned (.agg #[.int .i8 5, .int .i64 0, .string ⟨#[]⟩, .string ⟨#[]⟩, sv]) ∧ TrV (fun _ => True) w' (twoT a b) sv ∧ Below w.heap.size w w' := by
  have hn : (w.alloc (.cells #[.int .i8 0, .int .i64 0, .string ⟨#[]⟩, .string ⟨#[]⟩, .slice none 0 0] 28)).heap[w.heap.size]? = some (.cells (cells5 zeroT (.slice none 0 0)) 28 (0, 0)) := heap_new w _
  have hb := alloc_below w (.cells #[.int .i8 0, .int .i64 0, .string ⟨#[]⟩, .string ⟨#[]⟩, .slice none 0 0] 28)
  have hlt : w.heap.size < (w.alloc (.cells #[.int .i8 0, .int .i64 0, .string ⟨#[]⟩, .string ⟨#[]⟩, .slice none 0 0] 28)).heap.size := by simp
  go_enter Tryz.func23, Tryz.ntmps23
  go_upto_region 1 with fail
  generalize w.alloc (.cells #[.int .i8 0, .int .i64 0, .string ⟨#[]⟩, .string ⟨#[]⟩, .slice none 0 0] 28) = w1 at hn hb hlt ⊢
  have hsz1 : w.heap.size ≤ w1.heap.size := Nat.le_of_lt hlt
  have HLT := Lib.hid hlt
  clear hlt
  go_wp2_with (first
    | (go_at_call 44; refine (int_any w1 a).mono ?_; rintro e w5 ⟨rfl, hb5⟩)
    | (go_at_call 44; refine (int_any w5 b).mono ?_; rintro e w6 ⟨rfl, hb6⟩
       have hb16 := hb5.trans (hb6.mono hb5.size)
       have hb7 := alloc_below w6 (.cells #[.int .i8 0, .int .i64 a, .string ⟨#[]⟩, .string ⟨#[]⟩, .slice none 0 0, .int .i8 0, .int .i64 b, .string ⟨#[]⟩, .string ⟨#[]⟩, .slice none 0 0] 28)
       have hg7 := heap_new w6 (.cells #[.int .i8 0, .int .i64 a, .string ⟨#[]⟩, .string ⟨#[]⟩, .slice none 0 0, .int .i8 0, .int .i64 b, .string ⟨#[]⟩, .string ⟨#[]⟩, .slice none 0 0] 28)
       have hb17 := hb16.trans (hb7.mono hb16.size)
       have hn7 := (hb17.block _ HLT.out).trans hn
       have hr := setRow_heap' (cells := cells5 (twoT a b) (.slice (some ⟨w6.heap.size, 0, none⟩) 2 2)) hn7
       have hB7 := hb.trans (hb17.mono hb.size))
    | (refine wpList_store_row rfl 28 _ _ rfl w.heap.size (cells5 (twoT a b) (.slice (some ⟨w6.heap.size, 0, none⟩) 2 2)) (by kernel_rfl) (by kernel_rfl) 28 (cells5 zeroT (.slice none 0 0)) hn7 (size28 _ _) (by kernel_rfl) (by kernel_rfl) ?_))
  have hlt6 : w.heap.size < w6.heap.size := Nat.lt_of_lt_of_le HLT.out hb16.size
  have hB := below_setRow (cells := cells5 (twoT a b) (.slice (some ⟨w6.heap.size, 0, none⟩) 2 2)) hB7 (Nat.le_refl _)
  have hg8 : ∀ o, ((w6.alloc (.cells #[.int .i8 0, .int .i64 a, .string ⟨#[]⟩, .string ⟨#[]⟩, .slice none 0 0, .int .i8 0, .int .i64 b, .string ⟨#[]⟩, .string ⟨#[]⟩, .slice none 0 0] 28)).setRow w.heap.size (cells5 (twoT a b) (.slice (some ⟨w6.heap.size, 0, none⟩) 2 2))).cell? ⟨w6.heap.size, o, none⟩ = (w6.alloc (.cells #[.int .i8 0, .int .i64 a, .string ⟨#[]⟩, .string ⟨#[]⟩, .slice none 0 0, .int .i8 0, .int .i64 b, .string ⟨#[]⟩, .string ⟨#[]⟩, .slice none 0 0] 28)).cell? ⟨w6.heap.size, o, none⟩ := fun o => World.cell?_of_block (a := ⟨w6.heap.size, o, none⟩) (setRow_other (show w6.heap.size ≠ w.heap.size by omega))
  have hc : ∀ o u, (#[.int .i8 0, .int .i64 a, .string ⟨#[]⟩, .string ⟨#[]⟩, .slice none 0 0, .int .i8 0, .int .i64 b, .string ⟨#[]⟩, .string ⟨#[]⟩, .slice none 0 0] : Array Value)[o]? = some u → ((w6.alloc (.cells #[.int .i8 0, .int .i64 a, .string ⟨#[]⟩, .string ⟨#[]⟩, .slice none 0 0, .int .i8 0, .int .i64 b, .string ⟨#[]⟩, .string ⟨#[]⟩, .slice none 0 0] 28)).setRow w.heap.size (cells5 (twoT a b) (.slice (some ⟨w6.heap.size, 0, none⟩) 2 2))).cell? ⟨w6.heap.size, o, none⟩ = some u := fun o u h => (hg8 o).trans ((arr_cell hg7).trans h)
  refine bodyPost_ret (v := .agg (cells5 (twoT a b) (.slice (some ⟨w6.heap.size, 0, none⟩) 2 2))) (results_cell_row Tryz.results23 _ _ w.heap.size 28 (cells5 (twoT a b) (.slice (some ⟨w6.heap.size, 0, none⟩) 2 2)) (0, 0) _ rfl hr Tryz.underlying28 rfl (size28 _ _)) rfl ⟨_, rfl, ⟨wf_small _ _ _ _ _ (by decide) (by decide) (by decide) (by decide), ?_⟩, hB⟩
  have hi : ∀ n : Int, (Lit.int .i64 n).wf = true → ∀ W, TrV (fun _ => True) W (iT n) (.slice none 0 0) := fun n h W => ⟨wf_small _ _ _ _ _ (by decide) h (by decide) (by decide), Kids.nil _ _⟩
  exact kids_two (F := fun _ => True) (x := iT a) (y := iT b) ⟨hc 0 _ rfl, hc 1 _ rfl, hc 2 _ rfl, hc 3 _ rfl, hc 4 _ rfl⟩ ⟨hc 5 _ rfl, hc 6 _ rfl, hc 7 _ rfl, hc 8 _ rfl, hc 9 _ rfl⟩ (hi a ha _) (hi b hb' _) trivial
end Go.Proofs.YtjnmdbfijdnaiaaGreatDoor
