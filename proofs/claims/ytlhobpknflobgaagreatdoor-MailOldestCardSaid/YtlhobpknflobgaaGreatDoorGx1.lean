/-
  pleachlaw11.binds, more, great; pleachref11.May. Conditions: as said.
-/
import Derived.Test.YtlhobpknflobgaaGreatDoorGw5
import Derived.Test.YtlhobpknflobgaaGreatDoorS20
namespace Go.Proofs.YtlhobpknflobgaaGreatDoor
open Go.RowKit

theorem bind_one {F : Nat → Prop} {W : World} {b : Nat} {d : Bd} {sv : Value} {T : TypeId} (h : W.heap[b]? = some (.cells #[.string d.s, .int .i8 d.t.k, .int .i64 d.t.n, .string d.t.s, .string d.t.t, sv] T (0, 0))) (hx : TrV F W d.t sv) (hs : d.s.size ≤ BL * 64) (hF : F b) : Binds F W (.slice (some ⟨b, 0, none⟩) 1 1) [d] := by
  refine ⟨some ⟨b, 0, none⟩, 1, rfl, Nat.le_refl _, by simp [BL], fun i hi => ?_, fun e => by cases e⟩
  match i, hi with
  | 0, _ => exact ⟨b, 0, sv, rfl, hF, (arr_cell h).trans rfl, hs, ⟨(arr_cell h).trans rfl, (arr_cell h).trans rfl, (arr_cell h).trans rfl, (arr_cell h).trans rfl, (arr_cell h).trans rfl⟩, hx⟩
def t3 : Tr := .mk 0 3 ⟨#[]⟩ ⟨#[]⟩ []
def bX : List Bd := [⟨⟨#[88]⟩, t3⟩]
def xT : Tr := .mk 5 0 ⟨#[88]⟩ ⟨#[]⟩ []
def plusT (n : Tr) : Tr := .mk 11 0 ⟨#[43]⟩ ⟨#[]⟩ [xT, n]
def twoN : Tr := .mk 6 2 ⟨#[]⟩ ⟨#[]⟩ []
def moreT (n : Tr) : Tr := .mk 11 0 ⟨#[62]⟩ ⟨#[]⟩ [plusT n, twoN]

set_option maxHeartbeats 1000000 in
set_option maxRecDepth 100000 in
theorem binds11_any (w : World) : Calls Tryz.prog 53 #[] w fun e w' => ∃ b, e = .returned (.slice (some ⟨b, 0, none⟩) 1 1) ∧ Binds (fun _ => True) w' (.slice (some ⟨b, 0, none⟩) 1 1) bX ∧ Below w.heap.size w w' := by
  have hn := heap_new w (.cells #[.string ⟨#[88]⟩, .int .i8 0, .int .i64 3, .string ⟨#[]⟩, .string ⟨#[]⟩, .slice none 0 0] 40)
  have hb := alloc_below w (.cells #[.string ⟨#[88]⟩, .int .i8 0, .int .i64 3, .string ⟨#[]⟩, .string ⟨#[]⟩, .slice none 0 0] 40)
  have hB : Binds (fun _ => True) _ (.slice (some ⟨w.heap.size, 0, none⟩) 1 1) bX := bind_one (d := ⟨⟨#[88]⟩, t3⟩) (sv := .slice none 0 0) hn ⟨wf_small _ _ _ _ _ (by decide) (by decide) (by decide) (by decide), Kids.nil _ _⟩ (by show 1 ≤ BL * 64; unfold BL; omega) trivial
  have HB := Lib.hid hB
  clear hB hn
  go_enter Tryz.func53, Tryz.ntmps53
  go_wp2
  go_ret
  exact ⟨_, rfl, HB.out, hb⟩

set_option maxHeartbeats 4000000 in
set_option maxRecDepth 100000 in
theorem more_any {F : Nat → Prop} {w : World} {n : Tr} {sv : Value} (hx : TrV F w n sv) : Calls Tryz.prog 52 #[.agg #[.int .i8 n.k, .int .i64 n.n, .string n.s, .string n.t, sv]] w fun e w' => ∃ p c, e = .returned (.agg #[.int .i8 11, .int .i64 0, .string ⟨#[62]⟩, .string ⟨#[]⟩, .slice p 2 c]) ∧ TrV (fun g => F g ∨ w.heap.size ≤ g) w' (moreT n) (.slice p 2 c) ∧ Below w.heap.size w w' := by
  obtain ⟨p, c, rfl⟩ := hx.kids.slice
  obtain ⟨n1, n2, hb1, hz1⟩ := two_new w (.cells #[.int .i8 n.k, .int .i64 n.n, .string n.s, .string n.t, .slice p n.l.length c] 25) (.cells (cells5 zeroT (.slice none 0 0)) 25)
  have HX := Lib.hid ((hx.mono (P' := fun g => F g ∧ g ≠ w.heap.size + 1) fun g hg hl => ⟨hg, by omega⟩).below hb1)
  have HZ1 := Lib.hid hz1
  clear hx hz1
  go_enter Tryz.func52, Tryz.ntmps52
  go_upto_region 1 with fail
  change Code.wp _ _ _ _ ((w.alloc (.cells #[.int .i8 n.k, .int .i64 n.n, .string n.s, .string n.t, .slice p n.l.length c] 25)).alloc (.cells (cells5 zeroT (.slice none 0 0)) 25))
  generalize (w.alloc (.cells #[.int .i8 n.k, .int .i64 n.n, .string n.s, .string n.t, .slice p n.l.length c] 25)).alloc (.cells (cells5 zeroT (.slice none 0 0)) 25) = w1 at n1 n2 hb1 HX HZ1 ⊢
  have n3 := heap_new w1 (.cells (cells5 xT (.slice none 0 0)) 25)
  have hb2 := alloc_below w1 (.cells (cells5 xT (.slice none 0 0)) 25)
  have hlt : w.heap.size + 1 < w1.heap.size := by have := HZ1.out; omega
  have m1 := (hb2.block _ (show w.heap.size < w1.heap.size by omega)).trans n1
  have m2 := (hb2.block _ hlt).trans n2
  have HX2 := Lib.hid (HX.out.below hb2)
  have hB2 := hb1.trans (hb2.mono hb1.size)
  go_upto_region 2 with fail
  change Code.wp _ _ _ _ (w1.alloc (.cells (cells5 xT (.slice none 0 0)) 25))
  clear n1 n2 HX HZ1 hb2
  generalize w1.alloc (.cells (cells5 xT (.slice none 0 0)) 25) = w2 at n3 m1 m2 HX2 hB2 ⊢
  obtain ⟨a0, a1, a2, a3, a4⟩ := node_heap (x := n) m1
  obtain ⟨b0, b1, b2, b3, b4⟩ := node_heap (x := xT) n3
  simp only [Nat.zero_add] at a1 a2 a3 a4 b1 b2 b3 b4
  change w2.cell? _ = some (.int .i8 5) at b0
  change w2.cell? _ = some (.int .i64 0) at b1
  change w2.cell? _ = some (.string ⟨#[88]⟩) at b2
  change w2.cell? _ = some (.string ⟨#[]⟩) at b3
  obtain ⟨k1, k2, hb3, hz3⟩ := two_new w2 (.cells #[.int .i8 5, .int .i64 0, .string ⟨#[88]⟩, .string ⟨#[]⟩, .slice none 0 0, .int .i8 n.k, .int .i64 n.n, .string n.s, .string n.t, .slice p n.l.length c] 25) (.cells #[.int .i8 11, .int .i64 0, .string ⟨#[43]⟩, .string ⟨#[]⟩, .slice (some ⟨w2.heap.size, 0, none⟩) 2 2, .int .i8 6, .int .i64 2, .string ⟨#[]⟩, .string ⟨#[]⟩, .slice none 0 0] 25)
  have hlt2 : w.heap.size + 1 < w2.heap.size := (Array.getElem?_eq_some_iff.1 m2).1
  have m3 := (hb3.block _ hlt2).trans m2
  have HK1 := Lib.hid k1
  have HK2 := Lib.hid k2
  have HB3 := Lib.hid (hB2.trans (hb3.mono hB2.size))
  have HX3 := Lib.hid (HX2.out.below hb3)
  have HLT := Lib.hid hlt2
  clear k1 k2 hz3 hb3 hlt2 m1 m2 n3
  go_wp2_with (refine wpList_store_row rfl 25 _ _ rfl (w.heap.size + 1) (cells5 (moreT n) (.slice (some ⟨w2.heap.size + 1, 0, none⟩) 2 2)) rfl (by kernel_rfl) 25 (cells5 zeroT (.slice none 0 0)) m3 (size25 _ _) (by kernel_rfl) (by kernel_rfl) ?_)
  have hr := setRow_heap' (cells := cells5 (moreT n) (.slice (some ⟨w2.heap.size + 1, 0, none⟩) 2 2)) m3
  have hB := below_setRow (g := w.heap.size + 1) (cells := cells5 (moreT n) (.slice (some ⟨w2.heap.size + 1, 0, none⟩) 2 2)) HB3.out (by omega)
  refine bodyPost_ret (v := .agg (cells5 (moreT n) (.slice (some ⟨w2.heap.size + 1, 0, none⟩) 2 2))) (results_cell_row Tryz.results52 _ _ (w.heap.size + 1) 25 (cells5 (moreT n) (.slice (some ⟨w2.heap.size + 1, 0, none⟩) 2 2)) (0, 0) _ rfl hr Tryz.underlying25 rfl (size25 _ _)) rfl ⟨_, _, rfl, ?_, hB⟩
  have hlt := HLT.out
  have j1 := (setRow_ne (cells := cells5 (moreT n) (.slice (some ⟨w2.heap.size + 1, 0, none⟩) 2 2)) (show w2.heap.size ≠ w.heap.size + 1 by omega)).trans HK1.out
  have j2 := (setRow_ne (cells := cells5 (moreT n) (.slice (some ⟨w2.heap.size + 1, 0, none⟩) 2 2)) (show w2.heap.size + 1 ≠ w.heap.size + 1 by omega)).trans HK2.out
  have hxn := HX3.out.move (P' := fun g => F g ∨ w.heap.size ≤ g) (fun g hg _ => setRow_ne (cells := cells5 (moreT n) (.slice (some ⟨w2.heap.size + 1, 0, none⟩) 2 2)) hg.2) (fun g hg _ => .inl hg.1)
  refine ⟨wf_small _ _ _ _ _ (by decide) (by decide) (by decide) (by decide), kids_two ⟨(arr_cell j2).trans rfl, (arr_cell j2).trans rfl, (arr_cell j2).trans rfl, (arr_cell j2).trans rfl, (arr_cell j2).trans rfl⟩ ⟨(arr_cell j2).trans rfl, (arr_cell j2).trans rfl, (arr_cell j2).trans rfl, (arr_cell j2).trans rfl, (arr_cell j2).trans rfl⟩ ⟨wf_small _ _ _ _ _ (by decide) (by decide) (by decide) (by decide), ?_⟩ ⟨wf_small _ _ _ _ _ (by decide) (by decide) (by decide) (by decide), Kids.nil _ _⟩ (.inr (by omega))⟩
  exact kids_two (sv := .slice none 0 0) ⟨(arr_cell j1).trans rfl, (arr_cell j1).trans rfl, (arr_cell j1).trans rfl, (arr_cell j1).trans rfl, (arr_cell j1).trans rfl⟩ ⟨(arr_cell j1).trans rfl, (arr_cell j1).trans rfl, (arr_cell j1).trans rfl, (arr_cell j1).trans rfl, (arr_cell j1).trans rfl⟩ ⟨wf_small _ _ _ _ _ (by decide) (by decide) (by decide) (by decide), Kids.nil _ _⟩ hxn (.inr (by omega))

def gr11 (l : List Bd) : Bool := decide (40 < l.length) || l.any fun b => decide (1024 ≤ b.t.sz 1024)
set_option maxHeartbeats 2000000 in
set_option maxRecDepth 100000 in
theorem great11_any {F : Nat → Prop} {w : World} {v : Value} {l : List Bd} (hl : Binds F w v l) :
    Calls Tryz.prog 12 #[v] w fun e w' => e = .returned (.bool (gr11 l)) ∧ Below w.heap.size w w' := by
  have hlen : l.length ≤ 2199023255552 := hl.len
  obtain ⟨p, c, rfl⟩ := hl.slice
  have HL := Lib.hid hl
  have HM := Lib.hid (show gr11 l = (decide (40 < l.length) || l.any fun b => decide (1024 ≤ b.t.sz 1024)) from rfl)
  clear hl
  go_enter Tryz.func12, Tryz.ntmps12
  go_wp2_with fail
  go_loopw [6] (fun i wr => ∃ k : Nat, k ≤ l.length ∧ i = .int .i64 k ∧ k ≤ 40 ∧ (l.take k).any (fun b => decide (1024 ≤ b.t.sz 1024)) = false ∧ Below w.heap.size w wr) (fun i _ => l.length - (intOf i).toNat)
  case atStart => exact ⟨0, Nat.zero_le _, rfl, by omega, rfl, Below.refl _ _⟩
  case round =>
    obtain ⟨k, hk, rfl, hk40, hall, hbr⟩ := hrel
    by_cases hlt : k < l.length
    · by_cases h40 : 40 ≤ k
      · have HS : Hid (gr11 l = true) := by unfold Hid; rw [HM.out, decide_eq_true (by omega)]; rfl
        clear hall
        go_wp2_with fail
        go_ret
        exact ⟨by rw [HS.out]; rfl, hbr⟩
      · obtain ⟨g, o, kv, rfl, _, hs0, hsz, ⟨a0, a1, a2, a3, a4⟩, hkid⟩ := (HL.out.under hbr).at hlt
        have cG := greatT_any hkid
        have hstop : decide (1024 ≤ l[k].t.sz 1024) = true → Hid (gr11 l = true) := fun h => by
          unfold Hid; rw [HM.out, any_at (P := fun b : Bd => decide (1024 ≤ b.t.sz 1024)) hlt h]; simp
        have hnext : decide (1024 ≤ l[k].t.sz 1024) = false → Hid ((l.take (k + 1)).any (fun b => decide (1024 ≤ b.t.sz 1024)) = false) := fun h => any_take (P := fun b : Bd => decide (1024 ≤ b.t.sz 1024)) hlt hall h
        clear hkid hall
        generalize decide (1024 ≤ l[k].t.sz 1024) = q at cG hstop hnext
        cases q
        · have HN := hnext rfl
          clear hstop hnext
          go_wp2_with (go_at_call 37; refine cG.mono ?_; rintro e w5 ⟨rfl, hb5⟩)
          go_roundw
          case rel => exact ⟨k + 1, hlt, by go_num, by omega, HN.out, hbr.trans (hb5.mono hbr.size)⟩
          case measure => simp [intOf]; omega
        · have HS := hstop rfl
          clear hstop hnext
          go_wp2_with (go_at_call 37; refine cG.mono ?_; rintro e w5 ⟨rfl, hb5⟩)
          go_ret
          exact ⟨by rw [HS.out]; rfl, hbr.trans (hb5.mono hbr.size)⟩
    · have HS : Hid (gr11 l = false) := by
        unfold Hid
        rw [List.take_of_length_le (by omega)] at hall
        rw [HM.out, decide_eq_false (by omega), hall]; rfl
      clear hall
      go_wp2_with fail
      go_ret
      exact ⟨by rw [HS.out]; rfl, hbr⟩
theorem gr11_len {l : List Bd} (h : gr11 l = false) : l.length ≤ 40 := by
  unfold gr11 at h
  simp only [Bool.or_eq_false_iff, decide_eq_false_iff_not] at h
  omega

set_option maxHeartbeats 2000000 in
set_option maxRecDepth 100000 in
theorem rmay11_any {F : Nat → Prop} {w : World} {v : Value} {l : List Bd} (hl : Binds F w v l) :
    Calls Tryz.prog 15 #[v] w fun e w' => e = .returned (.bool (gmayB l)) ∧ Below w.heap.size w w' := by
  have hlen : l.length ≤ 2199023255552 := hl.len
  obtain ⟨p, c, rfl⟩ := hl.slice
  have HL := Lib.hid hl
  have HM := Lib.hid (show gmayB l = !l.any badT from rfl)
  clear hl
  go_enter Tryz.func15, Tryz.ntmps15
  go_wp2_with fail
  go_loopw [3] (fun i wr => ∃ k : Nat, k ≤ l.length ∧ i = .int .i64 k ∧ (l.take k).any badT = false ∧ Below w.heap.size w wr) (fun i _ => l.length - (intOf i).toNat)
  case atStart => exact ⟨0, Nat.zero_le _, rfl, rfl, Below.refl _ _⟩
  case round =>
    obtain ⟨k, hk, rfl, hall, hbr⟩ := hrel
    by_cases hlt : k < l.length
    · obtain ⟨g, o, kv, rfl, _, hs0, hsz, ⟨a0, a1, a2, a3, a4⟩, hkid⟩ := (HL.out.under hbr).at hlt
      have cC := rcheck_any hkid
      have hq : badT l[k] = !(chkT l[k].t == 0) := rfl
      have hstop : badT l[k] = true → Hid (gmayB l = false) := fun h => by
        unfold Hid; rw [HM.out, any_at hlt h]; rfl
      have hnext : badT l[k] = false → Hid ((l.take (k + 1)).any badT = false) := fun h => any_take hlt hall h
      clear hall hkid
      generalize chkT l[k].t = q at cC hq
      by_cases h0 : q = 0
      · subst h0
        have HN := hnext (by rw [hq]; rfl)
        clear hstop hnext hq
        go_wp2_with (go_at_call 13; refine cC.mono ?_; rintro e w5 ⟨rfl, hb5⟩)
        go_roundw
        case rel => exact ⟨k + 1, hlt, by go_num, HN.out, hbr.trans (hb5.mono hbr.size)⟩
        case measure => simp [intOf]; omega
      · have hne : (q != 0) = true := by simpa using h0
        have HS := hstop (by rw [hq]; simpa using h0)
        clear hstop hnext hq h0
        go_wp2_with (go_at_call 13; refine cC.mono ?_; rintro e w5 ⟨rfl, hb5⟩)
        go_ret
        exact ⟨by rw [HS.out]; rfl, hbr.trans (hb5.mono hbr.size)⟩
    · rw [List.take_of_length_le (by omega)] at hall
      have HN : Hid (gmayB l = true) := by unfold Hid; rw [HM.out, hall]; rfl
      clear hall
      go_wp2_with fail
      go_ret
      exact ⟨by rw [HN.out]; rfl, hbr⟩
end Go.Proofs.YtlhobpknflobgaaGreatDoor
