/-
  pleachlaw10.Great, v, two; pleachref03.Int. Conditions: the names lie as 'Binds' says.
  pleachlaw10.wakes: what the document says of a pattern that names one part twice holds of the program. Condition: the table of letters is as it was laid.
-/
import Derived.Test.YtmnjcbjfkaoeaaaGreatDoorS18
namespace Go.Proofs.YtmnjcbjfkaoeaaaGreatDoor
open Go.RowKit

def eS : ByteArray := ⟨#[]⟩
def iT (n : Int) : Tr := .mk 0 n eS eS []
def vT (s : ByteArray) : Tr := .mk 5 0 s eS []
def twoT (a b : Int) : Tr := .mk 5 0 eS eS [iT a, iT b]
/-- Names that are too many, or too great. -/
def greatB (l : List Bd) : Bool := decide (200 < l.length) || l.any fun b => decide (1024 ≤ b.t.sz 1024)

set_option maxHeartbeats 2000000 in
set_option maxRecDepth 100000 in
theorem greatL_any {F : Nat → Prop} {w : World} {v : Value} {l : List Bd} (hl : Binds F w v l) :
    Calls Tryz.prog 13 #[v] w fun e w' => e = .returned (.bool (greatB l)) ∧ Below w.heap.size w w' := by
  have hlen : l.length ≤ 2199023255552 := hl.len
  obtain ⟨p, c, rfl⟩ := hl.slice
  have HL := Lib.hid hl
  have HM := Lib.hid (show greatB l = (decide (200 < l.length) || l.any fun b => decide (1024 ≤ b.t.sz 1024)) from rfl)
  clear hl
  by_cases h : (200 : Int) < l.length
  · go_enter Tryz.func13, Tryz.ntmps13
    go_wp2_with fail
    go_ret
    exact ⟨by rw [HM.out, decide_eq_true (by omega)]; rfl, Below.refl _ _⟩
  have HM2 := Lib.hid (HM.out.trans (by rw [decide_eq_false (by omega)]; rfl : _ = l.any fun b => decide (1024 ≤ b.t.sz 1024)))
  clear HM
  go_enter Tryz.func13, Tryz.ntmps13
  go_wp2_with fail
  go_loopw [3] (fun i wr => ∃ k : Nat, k ≤ l.length ∧ i = .int .i64 k ∧ (l.take k).any (fun b => decide (1024 ≤ b.t.sz 1024)) = false ∧ Below w.heap.size w wr) (fun i _ => l.length - (intOf i).toNat)
  case atStart => exact ⟨0, Nat.zero_le _, rfl, rfl, Below.refl _ _⟩
  case round =>
    obtain ⟨k, hk, rfl, hall, hbr⟩ := hrel
    by_cases hlt : k < l.length
    · obtain ⟨g, o, kv, rfl, _, hs0, hsz, ⟨a0, a1, a2, a3, a4⟩, hkid⟩ := (HL.out.under hbr).at hlt
      have cG := greatT_any hkid
      have hstop : decide (1024 ≤ l[k].t.sz 1024) = true → Hid (greatB l = true) := fun h => by
        unfold Hid; rw [HM2.out]; exact any_at hlt h
      have hnext : decide (1024 ≤ l[k].t.sz 1024) = false → Hid ((l.take (k + 1)).any (fun b => decide (1024 ≤ b.t.sz 1024)) = false) := fun h => any_take (P := fun b : Bd => decide (1024 ≤ b.t.sz 1024)) hlt hall h
      clear hall hkid
      generalize decide (1024 ≤ l[k].t.sz 1024) = q at cG hstop hnext
      cases q
      · have HN := hnext rfl
        clear hstop hnext
        go_wp2_with (go_at_call 44; refine cG.mono ?_; rintro e w5 ⟨rfl, hb5⟩)
        go_roundw
        case rel => exact ⟨k + 1, hlt, by go_num, HN.out, hbr.trans (hb5.mono hbr.size)⟩
        case measure => simp [intOf]; omega
      · have HS := hstop rfl
        clear hstop hnext
        go_wp2_with (go_at_call 44; refine cG.mono ?_; rintro e w5 ⟨rfl, hb5⟩)
        go_ret
        exact ⟨by rw [HS.out]; rfl, hbr.trans (hb5.mono hbr.size)⟩
    · rw [List.take_of_length_le (by omega)] at hall
      have HN : Hid (greatB l = false) := by unfold Hid; rw [HM2.out, hall]
      clear hall
      go_wp2
      go_ret
      exact ⟨by rw [HN.out]; rfl, hbr⟩

theorem size25 (x : Tr) (sv : Value) : (Tryz.prog.info? 31).map (·.size) = some (cells5 x sv).size := by kernel_rfl

set_option maxHeartbeats 1000000 in
set_option maxRecDepth 100000 in
theorem v_any (w : World) (s : ByteArray) : Calls Tryz.prog 56 #[.string s] w fun e w' => e = .returned (.agg #[.int .i8 5, .int .i64 0, .string s, .string ⟨#[]⟩, .slice none 0 0]) ∧ Below w.heap.size w w' := by
  have hn : (w.alloc (.cells #[.int .i8 0, .int .i64 0, .string ⟨#[]⟩, .string ⟨#[]⟩, .slice none 0 0] 31)).heap[w.heap.size]? = some (.cells (cells5 zeroT (.slice none 0 0)) 31 (0, 0)) := heap_new w _
  have hb := alloc_below w (.cells #[.int .i8 0, .int .i64 0, .string ⟨#[]⟩, .string ⟨#[]⟩, .slice none 0 0] 31)
  go_enter Tryz.func56, Tryz.ntmps56
  go_upto_region 1 with fail
  generalize w.alloc (.cells #[.int .i8 0, .int .i64 0, .string ⟨#[]⟩, .string ⟨#[]⟩, .slice none 0 0] 31) = w1 at hn hb ⊢
  have hr := setRow_heap' (cells := cells5 (vT s) (.slice none 0 0)) hn
  have hB := below_setRow (cells := cells5 (vT s) (.slice none 0 0)) hb (Nat.le_refl _)
  go_wp2_with (refine wpList_store_row rfl 31 _ _ rfl w.heap.size (cells5 (vT s) (.slice none 0 0)) (by kernel_rfl) (by kernel_rfl) 31 (cells5 zeroT (.slice none 0 0)) hn (size25 _ _) (by kernel_rfl) (by kernel_rfl) ?_)
  refine bodyPost_ret (v := .agg (cells5 (vT s) (.slice none 0 0))) (results_cell_row Tryz.results56 _ _ w.heap.size 31 (cells5 (vT s) (.slice none 0 0)) (0, 0) _ rfl hr Tryz.underlying31 rfl (size25 _ _)) rfl ⟨rfl, hB⟩
set_option maxHeartbeats 1000000 in
set_option maxRecDepth 100000 in
theorem int_any (w : World) (n : Int) : Calls Tryz.prog 98 #[.int .i64 n] w fun e w' => e = .returned (.agg #[.int .i8 0, .int .i64 n, .string ⟨#[]⟩, .string ⟨#[]⟩, .slice none 0 0]) ∧ Below w.heap.size w w' := by
  have hn : (w.alloc (.cells #[.int .i8 0, .int .i64 0, .string ⟨#[]⟩, .string ⟨#[]⟩, .slice none 0 0] 37)).heap[w.heap.size]? = some (.cells (cells5 zeroT (.slice none 0 0)) 37 (0, 0)) := heap_new w _
  have hb := alloc_below w (.cells #[.int .i8 0, .int .i64 0, .string ⟨#[]⟩, .string ⟨#[]⟩, .slice none 0 0] 37)
  go_enter Tryz.func98, Tryz.ntmps98
  go_upto_region 1 with fail
  generalize w.alloc (.cells #[.int .i8 0, .int .i64 0, .string ⟨#[]⟩, .string ⟨#[]⟩, .slice none 0 0] 37) = w1 at hn hb ⊢
  have hr := setRow_heap' (cells := cells5 (iT n) (.slice none 0 0)) hn
  have hB := below_setRow (cells := cells5 (iT n) (.slice none 0 0)) hb (Nat.le_refl _)
  go_wp2_with (refine wpList_store_row rfl 37 _ _ rfl w.heap.size (cells5 (iT n) (.slice none 0 0)) (by kernel_rfl) (by kernel_rfl) 37 (cells5 zeroT (.slice none 0 0)) hn (size28 _ _) (by kernel_rfl) (by kernel_rfl) ?_)
  refine bodyPost_ret (v := .agg (cells5 (iT n) (.slice none 0 0))) (results_cell_row Tryz.results98 _ _ w.heap.size 37 (cells5 (iT n) (.slice none 0 0)) (0, 0) _ rfl hr Tryz.underlying37 rfl (size28 _ _)) rfl ⟨rfl, hB⟩

theorem setRow_other {X : World} {g i : Nat} {cells : Array Value} (h : i ≠ g) : (X.setRow g cells).heap[i]? = X.heap[i]? := by
  simp [World.setRow, Array.getElem?_modify]
  omega
theorem wf_small (k n : Int) (s t : ByteArray) (l : List Tr) (h1 : (Lit.int .i8 k).wf = true) (h2 : (Lit.int .i64 n).wf = true) (h3 : s.size ≤ 64) (h4 : t.size ≤ 64) : NodeWf (.mk k n s t l) := ⟨h1, h2, by show s.size ≤ _; unfold BL; omega, by show t.size ≤ _; unfold BL; omega⟩
theorem kids_two {F : Nat → Prop} {w : World} {g : Nat} {x y : Tr} {sv tv : Value} (hx : NodeAt w g 0 x sv) (hy : NodeAt w g 5 y tv) (hxv : TrV F w x sv) (hyv : TrV F w y tv) (hg : F g) : Kids F w (.slice (some ⟨g, 0, none⟩) 2 2) [x, y] :=
  .mk _ 2 [x, y] (fun i => if i = 0 then sv else tv) (Nat.le_refl _) (by simp [BL])
    (fun i hi => match i, hi with | 0, _ => hxv.wf | 1, _ => hyv.wf)
    (fun i hi => match i, hi with | 0, _ => ⟨g, 0, rfl, hg, hx⟩ | 1, _ => ⟨g, 0, rfl, hg, hy⟩)
    (fun i hi => match i, hi with | 0, _ => hxv.kids | 1, _ => hyv.kids)

set_option maxHeartbeats 2000000 in
set_option maxRecDepth 100000 in
theorem two_any (w : World) (a b : Int) (ha : (Lit.int .i64 a).wf = true) (hb' : (Lit.int .i64 b).wf = true) : Calls Tryz.prog 58 #[.int .i64 a, .int .i64 b] w fun e w' => ∃ sv, e = .returned (.agg #[.int .i8 5, .int .i64 0, .string ⟨#[]⟩, .string ⟨#[]⟩, sv]) ∧ TrV (fun _ => True) w' (twoT a b) sv ∧ Below w.heap.size w w' := by
  have hn : (w.alloc (.cells #[.int .i8 0, .int .i64 0, .string ⟨#[]⟩, .string ⟨#[]⟩, .slice none 0 0] 37)).heap[w.heap.size]? = some (.cells (cells5 zeroT (.slice none 0 0)) 37 (0, 0)) := heap_new w _
  have hb := alloc_below w (.cells #[.int .i8 0, .int .i64 0, .string ⟨#[]⟩, .string ⟨#[]⟩, .slice none 0 0] 37)
  have hlt : w.heap.size < (w.alloc (.cells #[.int .i8 0, .int .i64 0, .string ⟨#[]⟩, .string ⟨#[]⟩, .slice none 0 0] 37)).heap.size := by simp
  go_enter Tryz.func58, Tryz.ntmps58
  go_upto_region 1 with fail
  generalize w.alloc (.cells #[.int .i8 0, .int .i64 0, .string ⟨#[]⟩, .string ⟨#[]⟩, .slice none 0 0] 37) = w1 at hn hb hlt ⊢
  have hsz1 : w.heap.size ≤ w1.heap.size := Nat.le_of_lt hlt
  have HLT := Lib.hid hlt
  clear hlt
  go_wp2_with (first
    | (go_at_call 98; refine (int_any w1 a).mono ?_; rintro e w5 ⟨rfl, hb5⟩)
    | (go_at_call 98; refine (int_any w5 b).mono ?_; rintro e w6 ⟨rfl, hb6⟩
       have hb16 := hb5.trans (hb6.mono hb5.size)
       have hb7 := alloc_below w6 (.cells #[.int .i8 0, .int .i64 a, .string ⟨#[]⟩, .string ⟨#[]⟩, .slice none 0 0, .int .i8 0, .int .i64 b, .string ⟨#[]⟩, .string ⟨#[]⟩, .slice none 0 0] 37)
       have hg7 := heap_new w6 (.cells #[.int .i8 0, .int .i64 a, .string ⟨#[]⟩, .string ⟨#[]⟩, .slice none 0 0, .int .i8 0, .int .i64 b, .string ⟨#[]⟩, .string ⟨#[]⟩, .slice none 0 0] 37)
       have hb17 := hb16.trans (hb7.mono hb16.size)
       have hn7 := (hb17.block _ HLT.out).trans hn
       have hr := setRow_heap' (cells := cells5 (twoT a b) (.slice (some ⟨w6.heap.size, 0, none⟩) 2 2)) hn7
       have hB7 := hb.trans (hb17.mono hb.size))
    | (refine wpList_store_row rfl 37 _ _ rfl w.heap.size (cells5 (twoT a b) (.slice (some ⟨w6.heap.size, 0, none⟩) 2 2)) (by kernel_rfl) (by kernel_rfl) 37 (cells5 zeroT (.slice none 0 0)) hn7 (size28 _ _) (by kernel_rfl) (by kernel_rfl) ?_))
  have hlt6 : w.heap.size < w6.heap.size := Nat.lt_of_lt_of_le HLT.out hb16.size
  have hB := below_setRow (cells := cells5 (twoT a b) (.slice (some ⟨w6.heap.size, 0, none⟩) 2 2)) hB7 (Nat.le_refl _)
  have hg8 : ∀ o, ((w6.alloc (.cells #[.int .i8 0, .int .i64 a, .string ⟨#[]⟩, .string ⟨#[]⟩, .slice none 0 0, .int .i8 0, .int .i64 b, .string ⟨#[]⟩, .string ⟨#[]⟩, .slice none 0 0] 37)).setRow w.heap.size (cells5 (twoT a b) (.slice (some ⟨w6.heap.size, 0, none⟩) 2 2))).cell? ⟨w6.heap.size, o, none⟩ = (w6.alloc (.cells #[.int .i8 0, .int .i64 a, .string ⟨#[]⟩, .string ⟨#[]⟩, .slice none 0 0, .int .i8 0, .int .i64 b, .string ⟨#[]⟩, .string ⟨#[]⟩, .slice none 0 0] 37)).cell? ⟨w6.heap.size, o, none⟩ := fun o => World.cell?_of_block (a := ⟨w6.heap.size, o, none⟩) (setRow_other (show w6.heap.size ≠ w.heap.size by omega))
  have hc : ∀ o u, (#[.int .i8 0, .int .i64 a, .string ⟨#[]⟩, .string ⟨#[]⟩, .slice none 0 0, .int .i8 0, .int .i64 b, .string ⟨#[]⟩, .string ⟨#[]⟩, .slice none 0 0] : Array Value)[o]? = some u → ((w6.alloc (.cells #[.int .i8 0, .int .i64 a, .string ⟨#[]⟩, .string ⟨#[]⟩, .slice none 0 0, .int .i8 0, .int .i64 b, .string ⟨#[]⟩, .string ⟨#[]⟩, .slice none 0 0] 37)).setRow w.heap.size (cells5 (twoT a b) (.slice (some ⟨w6.heap.size, 0, none⟩) 2 2))).cell? ⟨w6.heap.size, o, none⟩ = some u := fun o u h => (hg8 o).trans ((arr_cell hg7).trans h)
  refine bodyPost_ret (v := .agg (cells5 (twoT a b) (.slice (some ⟨w6.heap.size, 0, none⟩) 2 2))) (results_cell_row Tryz.results58 _ _ w.heap.size 37 (cells5 (twoT a b) (.slice (some ⟨w6.heap.size, 0, none⟩) 2 2)) (0, 0) _ rfl hr Tryz.underlying37 rfl (size28 _ _)) rfl ⟨_, rfl, ⟨wf_small _ _ _ _ _ (by decide) (by decide) (by decide) (by decide), ?_⟩, hB⟩
  have hi : ∀ n : Int, (Lit.int .i64 n).wf = true → ∀ W, TrV (fun _ => True) W (iT n) (.slice none 0 0) := fun n h W => ⟨wf_small _ _ _ _ _ (by decide) h (by decide) (by decide), Kids.nil _ _⟩
  exact kids_two (F := fun _ => True) (x := iT a) (y := iT b) ⟨hc 0 _ rfl, hc 1 _ rfl, hc 2 _ rfl, hc 3 _ rfl, hc 4 _ rfl⟩ ⟨hc 5 _ rfl, hc 6 _ rfl, hc 7 _ rfl, hc 8 _ rfl, hc 9 _ rfl⟩ (hi a ha _) (hi b hb' _) trivial
end Go.Proofs.YtmnjcbjfkaoeaaaGreatDoor
namespace Go.Proofs.YtmnjcbjfkaoeaaaGreatDoor
open Go.RowKit

def xS : ByteArray := ⟨#[88]⟩
def patX : Tr := .mk 10 0 eS eS [vT xS, vT xS]
theorem wake1 : allS [patX] [twoT 1 1] [] = ([⟨xS, iT 1⟩], true, 0) := by
  have hp : patB patX = true := by decide +kernel
  have hc : chkT (twoT 1 1) = 0 := by decide +kernel
  have hf : bfind [⟨xS, iT 1⟩] xS = some (iT 1) := by
    unfold bfind
    simp
  have hs : (iT 1).same (iT 1) = true := by decide +kernel
  have hu : undB xS = false := by decide +kernel
  rw [allS_one]
  unfold matchS
  rw [hp, hc]
  have hg : patX.go (twoT 1 1) [] = some [⟨xS, iT 1⟩] := by
    have h1 : (vT xS).go (iT 1) [] = some [⟨xS, iT 1⟩] := by rw [go_var (by rfl)]; show (if undB xS = true then _ else _) = _; rw [hu]; rfl
    have h2 : (vT xS).go (iT 1) [⟨xS, iT 1⟩] = some [⟨xS, iT 1⟩] := by
      rw [go_var (by rfl)]
      show (if undB xS = true then _ else match bfind _ xS with | some y => _ | none => _) = _
      rw [hu, hf]
      simp [hs]
    have hw : patX.go (twoT 1 1) [] = wholeS 5 patX (twoT 1 1) [] := go_whole (by decide +kernel) hc (.inr ⟨rfl, rfl⟩)
    rw [hw]
    unfold wholeS
    rw [if_pos ⟨rfl, rfl⟩]
    show Tr.go.gol [vT xS, vT xS] [iT 1, iT 1] [] = _
    rw [Tr.go.gol, h1]
    show Tr.go.gol [vT xS] [iT 1] [⟨xS, iT 1⟩] = _
    rw [Tr.go.gol, h2]
    rfl
  unfold goR
  rw [hg]
  rfl
theorem wake2 : allS [patX] [twoT 1 2] [] = ([], false, 0) := by
  have hp : patB patX = true := by decide +kernel
  have hc : chkT (twoT 1 2) = 0 := by decide +kernel
  have hg : patX.go (twoT 1 2) [] = none := by
    have : (patX.go (twoT 1 2) []).isNone = true := by decide +kernel
    simpa using this
  rw [allS_one]
  unfold matchS
  rw [hp, hc]
  unfold goR
  rw [hg]
  rfl

set_option maxHeartbeats 4000000 in
set_option maxRecDepth 100000 in
theorem wakes_any {w : World} (hL : Letters w) : Calls Tryz.prog 14 #[] w fun e w' => e = .returned (.bool true) ∧ Below w.heap.size w w' := by
  go_enter Tryz.func14, Tryz.ntmps14
  go_upto_region 2 with (first
    | (go_at_call 56; refine (v_any w ⟨#[88]⟩).mono ?_; rintro e w5 ⟨rfl, hb5⟩)
    | (go_at_call 56; refine (v_any w5 ⟨#[88]⟩).mono ?_; rintro e w6 ⟨rfl, hb6⟩))
  obtain ⟨n1, n2, hb7, hz7⟩ := two_new w6 (.cells #[.int .i8 5, .int .i64 0, .string ⟨#[88]⟩, .string ⟨#[]⟩, .slice none 0 0, .int .i8 5, .int .i64 0, .string ⟨#[88]⟩, .string ⟨#[]⟩, .slice none 0 0] 31) (.cells #[.int .i8 10, .int .i64 0, .string ⟨#[]⟩, .string ⟨#[]⟩, .slice (some ⟨w6.heap.size, 0, none⟩) 2 2] 31)
  generalize (w6.alloc (.cells #[.int .i8 5, .int .i64 0, .string ⟨#[88]⟩, .string ⟨#[]⟩, .slice none 0 0, .int .i8 5, .int .i64 0, .string ⟨#[88]⟩, .string ⟨#[]⟩, .slice none 0 0] 31)).alloc (.cells #[.int .i8 10, .int .i64 0, .string ⟨#[]⟩, .string ⟨#[]⟩, .slice (some ⟨w6.heap.size, 0, none⟩) 2 2] 31) = w7 at n1 n2 hb7 hz7 ⊢
  have hB7 := (hb5.trans (hb6.mono hb5.size)).trans (hb7.mono (hb5.trans (hb6.mono hb5.size)).size)
  have hc : ∀ o u, (#[.int .i8 5, .int .i64 0, .string ⟨#[88]⟩, .string ⟨#[]⟩, .slice none 0 0, .int .i8 5, .int .i64 0, .string ⟨#[88]⟩, .string ⟨#[]⟩, .slice none 0 0] : Array Value)[o]? = some u → w7.cell? ⟨w6.heap.size, o, none⟩ = some u := fun o u h => (arr_cell n1).trans h
  have hd' : ∀ o u, (#[.int .i8 10, .int .i64 0, .string ⟨#[]⟩, .string ⟨#[]⟩, .slice (some ⟨w6.heap.size, 0, none⟩) 2 2] : Array Value)[o]? = some u → w7.cell? ⟨w6.heap.size + 1, o, none⟩ = some u := fun o u h => (arr_cell n2).trans h
  have hv : ∀ W, TrV (fun _ => True) W (vT xS) (.slice none 0 0) := fun W => ⟨wf_small _ _ _ _ _ (by decide) (by decide) (by decide) (by decide), Kids.nil _ _⟩
  have hp7 : TrV (fun _ => True) w7 patX (.slice (some ⟨w6.heap.size, 0, none⟩) 2 2) := ⟨wf_small _ _ _ _ _ (by decide) (by decide) (by decide) (by decide), kids_two (F := fun _ => True) (x := vT xS) (y := vT xS) ⟨hc 0 _ rfl, hc 1 _ rfl, hc 2 _ rfl, hc 3 _ rfl, hc 4 _ rfl⟩ ⟨hc 5 _ rfl, hc 6 _ rfl, hc 7 _ rfl, hc 8 _ rfl, hc 9 _ rfl⟩ (hv _) (hv _) trivial⟩
  have HL7 := Lib.hid (hL.under hB7)
  have hS : ∀ W : World, Below w7.heap.size w7 W → W.cell? ⟨w6.heap.size + 1, 0, none⟩ = some (.int .i8 10) ∧ W.cell? ⟨w6.heap.size + 1, 1, none⟩ = some (.int .i64 0) ∧ W.cell? ⟨w6.heap.size + 1, 2, none⟩ = some (.string ⟨#[]⟩) ∧ W.cell? ⟨w6.heap.size + 1, 3, none⟩ = some (.string ⟨#[]⟩) ∧ W.cell? ⟨w6.heap.size + 1, 4, none⟩ = some (.slice (some ⟨w6.heap.size, 0, none⟩) 2 2) := by
    intro W hb
    have f : ∀ o u, w7.cell? ⟨w6.heap.size + 1, o, none⟩ = some u → W.cell? ⟨w6.heap.size + 1, o, none⟩ = some u := fun o u h => (hb.cell (p := ⟨w6.heap.size + 1, o, none⟩) (cell_block h)).trans h
    exact ⟨f _ _ (hd' 0 _ rfl), f _ _ (hd' 1 _ rfl), f _ _ (hd' 2 _ rfl), f _ _ (hd' 3 _ rfl), f _ _ (hd' 4 _ rfl)⟩
  have hK := Below.refl w7.heap.size w7
  have hd : Below w7.heap.size w7 w7.drew := below_drewN (Below.refl _ _) 1
  have hS0 := hS w7 (Below.refl _ _)
  clear n1 n2 hc hd' hv hb5 hb6 hL hz7
  go_region_held3 (fun W => W.cell? ⟨w6.heap.size + 1, 0, none⟩ = some (.int .i8 10) ∧ W.cell? ⟨w6.heap.size + 1, 1, none⟩ = some (.int .i64 0) ∧ W.cell? ⟨w6.heap.size + 1, 2, none⟩ = some (.string ⟨#[]⟩) ∧ W.cell? ⟨w6.heap.size + 1, 3, none⟩ = some (.string ⟨#[]⟩) ∧ W.cell? ⟨w6.heap.size + 1, 4, none⟩ = some (.slice (some ⟨w6.heap.size, 0, none⟩) 2 2)) (first | exact hS0 | exact hS1 | exact hS2) (first
    | (go_at_call 58; refine (two_any _ 1 1 (by decide) (by decide)).mono ?_; rintro e w8 ⟨sv8, rfl, ht8, hb8⟩
       have hB8 := hd.trans (hb8.mono hd.size)
       have hS1 := hS _ (hK.trans (hB8.mono hK.size)))
    | (go_at_call 57; refine (mmatch_any (F := fun _ => True) (p := patX) (x := twoT 1 1) (l := []) ⟨(HL7.out.under hK).under hB8, fun _ _ => trivial, (hp7.below hK).below hB8, ht8, Binds.nil _ _⟩).mono ?_; rintro e w9 ⟨v9, l9, ok9, er9, rfl, hl9, hb9, hq9⟩
       have hB9 := hB8.trans (hb9.mono hB8.size)
       have hS2 := hS _ (hK.trans (hB9.mono hK.size))
       rw [wake1] at hq9
       cases hq9
       obtain ⟨p9, c9, rfl⟩ := hl9.slice))
  have hl1 := hl9
  obtain ⟨g, o, sv, e1, _, c0, _, ⟨c1, c2, c3, c4, c5⟩, _⟩ := hl9.at (i := 0) (by decide)
  cases e1
  clear hl9 hK hS0
  have hK := hB9
  clear hS1 hS2
  have hS0 := hS _ hK
  have hd : Below w9.heap.size w9 w9.drew := below_drewN (Below.refl _ _) 1
  clear ht8 hb8 hB8 hb9 hB9 hl1
  have c0' : w9.cell? ⟨g, o, none⟩ = some (.string xS) := by simpa using c0
  have c2' : w9.cell? ⟨g, o + 1 + 1, none⟩ = some (.int .i64 1) := by simpa [iT, Tr.n] using c2
  clear c0 c1 c2 c3 c4 c5
  go_wp2_with fail
  go_region_held3 (fun W => W.cell? ⟨w6.heap.size + 1, 0, none⟩ = some (.int .i8 10) ∧ W.cell? ⟨w6.heap.size + 1, 1, none⟩ = some (.int .i64 0) ∧ W.cell? ⟨w6.heap.size + 1, 2, none⟩ = some (.string ⟨#[]⟩) ∧ W.cell? ⟨w6.heap.size + 1, 3, none⟩ = some (.string ⟨#[]⟩) ∧ W.cell? ⟨w6.heap.size + 1, 4, none⟩ = some (.slice (some ⟨w6.heap.size, 0, none⟩) 2 2)) (first | exact hS0 | exact hS1 | exact hS2) (first
    | (go_at_call 58; refine (two_any _ 1 2 (by decide) (by decide)).mono ?_; rintro e w10 ⟨sv8, rfl, ht8, hb8⟩
       have hB8 := hd.trans (hb8.mono hd.size)
       have hS1 := hS _ (hK.trans (hB8.mono hK.size)))
    | (go_at_call 57; refine (mmatch_any (F := fun _ => True) (p := patX) (x := twoT 1 2) (l := []) ⟨(HL7.out.under hK).under hB8, fun _ _ => trivial, (hp7.below hK).below hB8, ht8, Binds.nil _ _⟩).mono ?_; rintro e w11 ⟨v9, l9, ok9, er9, rfl, hl9, hb9, hq9⟩
       have hB9 := hB8.trans (hb9.mono hB8.size)
       have hS2 := hS _ (hK.trans (hB9.mono hK.size))
       rw [wake2] at hq9
       cases hq9
       obtain ⟨p9, c9, rfl⟩ := hl9.slice))
  have d0 : w11.cell? ⟨g, o, none⟩ = some (.string ⟨#[88]⟩) := (hB9.cell (p := ⟨g, o, none⟩) (cell_block c0')).trans c0'
  have d2 : w11.cell? ⟨g, o + 1 + 1, none⟩ = some (.int .i64 1) := (hB9.cell (p := ⟨g, o + 1 + 1, none⟩) (cell_block c2')).trans c2'
  have hfin : Below w.heap.size w w11 := hB7.trans ((hK.trans (hB9.mono hK.size)).mono hB7.size)
  have HF := Lib.hid hfin
  clear c0' c2' hS1 hS2 hS0 hfin
  go_wp2
  go_ret
  exact ⟨rfl, HF.out⟩
end Go.Proofs.YtmnjcbjfkaoeaaaGreatDoor
